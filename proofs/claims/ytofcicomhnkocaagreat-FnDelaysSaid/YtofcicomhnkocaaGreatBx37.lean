import Derived.Test.YtofcicomhnkocaaGreatBx34
import Derived.Test.YtofcicomhnkocaaGreatBx35
set_option linter.unusedVariables false
namespace Go.Proofs.YtofcicomhnkocaaGreat
set_option maxHeartbeats 6400000
open Go.RowKit Go.Sort
set_option maxRecDepth 100000
theorem drawCR_any (a:Option Addr) (len cap:Nat) (w:World) (h:RdB w (.slice a len cap)):
 Calls Tryz.prog 28 #[.slice a len cap] w (DbP w):=by
 obtain⟨NP,hNP⟩:∃NP,NP=DbP w:=⟨_,rfl⟩
 rw[←hNP]
 have B1:=(ξb w.heap.size w).alloc (ξr _) (.cells #[.slice none 0 0,.slice none 0 0] 35)
 have HB:=ξh B1
 have HR:=ξh (ξn w (.cells #[.slice none 0 0,.slice none 0 0] 35))
 have HC:=ξh (drawBG_any a len cap _ (RdB.behind h B1))
 clear B1 h
 go_enter Tryz.func28,Tryz.ntmps28
 go_upto_region 1 with fail
 generalize w.alloc (.cells #[.slice none 0 0,.slice none 0 0] 35)=w1 at *
 obtain⟨br,hq⟩:∃br,br=w.heap.size:=⟨_,rfl⟩
 have hbr:w.heap.size≤br:=by omega
 rw[←hq] at HR ⊢
 have hb1:br<w1.heap.size:=(ξa HR.out).1
 clear hq
 go_wp2_with fail
 refine HC.mono ?_
 rintro e w3 ⟨a1,m1,c1,a2,m2,c2,af,mf,cf,ag,mg,cg,n,gs,rfl,hg,hb⟩
 have HR:=ξh (ξA HR.out hb)
 have HBW:=ξh (HB.trans (hb.mono HB.size))
 have HG:=ξh hg
 obtain⟨B,hB⟩:∃B,B+1=w1.heap.size:=⟨w1.heap.size-1,by omega⟩
 rw[←hB] at HG
 have hrB:br<B+1:=by omega
 clear hg hb HC HB
 have r0:=blkc HR.out (j:=0) (u:= .slice none 0 0) rfl
 have r1:=blkc HR.out (j:=1) (u:= .slice none 0 0) rfl
 have g0:w3.frozen? ⟨br,0,none⟩=false:=ξz _ _ _ _ _ HR.out
 have g1:w3.frozen? ⟨br,1,none⟩=false:=ξz _ _ _ _ _ HR.out
 have s0:=ξe w3 br 0 _ _ (.slice a1 m1 c1) HR.out
 have s1:=ξe _ br 1 _ _ (.slice a2 m2 c2) s0
 have BW9:=ξh ((HBW.setCell (p:=⟨br,0,none⟩) hbr (.slice a1 m1 c1)).setCell (p:=⟨br,1,none⟩) hbr (.slice a2 m2 c2))
 have G9:=ξh (((HG.set (b:=br) (j:=0) (x:= .slice a1 m1 c1) (by omega)).set (b:=br) (j:=1) (x:= .slice a2 m2 c2) (by omega)).lower (show w.heap.size≤B+1 by omega))
 have t0:=blkc s1 (j:=0) (u:= .slice a1 m1 c1) rfl
 have t1:=blkc s1 (j:=1) (u:= .slice a2 m2 c2) rfl
 clear s0 s1
 go_wp2_with fail
 subst hNP
 exact bodyPost_ret (v:= .tuple #[.agg #[.slice a1 m1 c1,.slice a2 m2 c2],.slice af mf cf,.slice ag mg cg]) (by simp[results,Tryz.results28,go_sem,t0,t1]) rfl ⟨_,_,_,_,_,_,_,_,_,_,_,_,n,gs,rfl,G9.out,BW9.out⟩
open Go.RowKit
theorem Ofr.mono {w:World} {b b':Nat} {d:Dt} {v:Value} (h:Ofr w b d v) (hb:b'≤b):Ofr w b' d v:=by
 obtain⟨fp,h1,h2,h3⟩:=h;exact⟨fp,h1,h2,fun k hk=>ξs hb (h3 k hk)⟩
theorem Ofr.below {w w':World} {base:Nat} {d:Dt} {v:Value} (h:Ofr w base d v) (hb:Below w.heap.size w w'):Ofr w' base d v:=by
 obtain⟨fp,h1,h2,h3⟩:=h;exact⟨fp,h1.behind hb,h2,h3⟩
theorem flat_put {fs:List (List Nat)} {f:List Nat} {lo j:Nat} (hn:fs.flatten.Nodup) (hlt:∀k∈fs.flatten,k<lo) (hf:f.Nodup) (hge:∀k∈f,lo≤k):
 (fs.set j f).flatten.Nodup∧ ∀k∈(fs.set j f).flatten,k∈fs.flatten∨k∈f:=by
 have hmem:∀k∈(fs.set j f).flatten,k∈fs.flatten∨k∈f:=fun k hk=>by
  obtain⟨i,hi,h2⟩:=ξcg hk
  rw[List.length_set] at hi
  by_cases e:j=i
  · subst e;rw[List.getElem_set_self] at h2;exact .inr h2
  · rw[List.getElem_set_ne e] at h2;exact .inl (List.mem_flatten.2 ⟨_,ξj hi,h2⟩)
 refine⟨?_,hmem⟩
 obtain⟨h1,h2⟩:=ξbm.1 hn
 rw[List.pairwise_iff_getElem] at h2
 have hlt':∀i (hi:i<fs.length),∀k∈fs[i],k<lo:=fun i hi k hk=>hlt k (List.mem_flatten.2 ⟨_,ξj hi,hk⟩)
 refine ξbm.2 ⟨fun g hg=> ?_,?_⟩
 · obtain⟨i,hi,rfl⟩:=List.mem_iff_getElem.1 hg
   rw[List.length_set] at hi
   by_cases e:j=i
   · subst e;rw[List.getElem_set_self];exact hf
   · rw[List.getElem_set_ne e];exact h1 _ (ξj hi)
 · rw[List.pairwise_iff_getElem]
   intro a b ha hb hab x hx y hy
   rw[List.length_set] at ha hb
   by_cases ea:j=a
   · subst ea
     rw[List.getElem_set_self] at hx
     rw[List.getElem_set_ne (by omega)] at hy
     have:=hge x hx;have:=hlt' b hb y hy;omega
   · rw[List.getElem_set_ne ea] at hx
     by_cases eb:j=b
     · subst eb
       rw[List.getElem_set_self] at hy
       have:=hge y hy;have:=hlt' a ha x hx;omega
     · rw[List.getElem_set_ne eb] at hy
       exact h2 a b ha hb hab x hx y hy
theorem Ofr.put {wr w1:World} {base size j:Nat} {ds:List Dt} {d:Dt} {v u:Value} (h:Ofr wr base (.rows size ds) v) (hbb:base≤wr.heap.size) (hb:Below wr.heap.size wr w1) (hu:Ofr w1 wr.heap.size d u) (hj:j<ds.length):
 ∃g off n cap,v= .slice (some ⟨g,off,none⟩) n cap∧base≤g∧g<wr.heap.size∧(∃u0,w1.cell? ⟨g,off+j,none⟩=some u0)∧w1.frozen? ⟨g,off+j,none⟩=false∧
  Ofr (w1.setCell ⟨g,off+j,none⟩ u) base (.rows size (ds.set j d)) v:=by
 obtain⟨fp,h1,h2,h3⟩:=h
 obtain⟨f,k1,k2,k3⟩:=hu
 have hlt:=h1.lt
 have h1':=h1.behind hb
 clear h1
 cases h1' with
 | nil size=>simp at hj
 | @mk size n g off cap ds us fs cur T hl hus hf hn hc hg hcs ht hd=>
   obtain⟨hgn,hfn⟩:=List.nodup_cons.1 h2
   have hg1:g<wr.heap.size:=hlt g (by simp)
   obtain⟨q1,q2⟩:=flat_put (j:=j) hfn (fun k hk=>hlt k (List.mem_cons_of_mem _ hk)) k2 k3
   have hgq:g ∉ (fs.set j f).flatten:=fun e=>by
    rcases q2 g e with e | e
    · exact hgn e
    · have:=k3 g e;omega
   have hju:j<us.length:=by omega
   refine⟨g,off,n,cap,rfl,h3 g (by simp),hg1,⟨_,ξaj hg ht (ξg hju) (by omega)⟩,ξz _ _ _ _ _ hg,g::(fs.set j f).flatten,?_,List.nodup_cons.2 ⟨hgq,q1⟩,fun k hk=> ?_⟩
   · have hg':=ξe w1 g (off+j) cur T u hg
     refine .mk (us:=us.set j u) (by rw[List.length_set];exact hl) (by rw[List.length_set,List.length_set];exact hus) (by rw[List.length_set,List.length_set];exact hf) hn hc hg' (by simpa using hcs) ?_ (fun i d2 u2 f2 e1 e2 e3=> ?_)
     · rw[Array.toList_setIfInBounds,List.drop_set,if_neg (by omega),Nat.add_sub_cancel_left,List.take_set,ht]
     · have hset:∀k,k≠g→(w1.setCell ⟨g,off+j,none⟩ u).heap[k]?= w1.heap[k]?:=fun k hk=>ξm w1 ⟨g,off+j,none⟩ k u hk
       by_cases e:j=i
       · subst e
         rw[List.getElem?_set_self hj] at e1
         rw[List.getElem?_set_self hju] at e2
         rw[List.getElem?_set_self (by omega)] at e3
         cases e1;cases e2;cases e3
         exact k1.kept fun k hk=>hset k (by have:=k3 k hk;omega)
       · rw[List.getElem?_set_ne e] at e1 e2 e3
         exact(hd i d2 u2 f2 e1 e2 e3).kept fun k hk=>hset k (fun e=>hgn (by rw[←e];exact List.mem_flatten.2 ⟨f2,List.mem_of_getElem? e3,hk⟩))
   · rcases List.mem_cons.1 hk with rfl | hk
     · exact h3 k (by simp)
     · rcases q2 k hk with e | e
       · exact h3 k (List.mem_cons_of_mem _ e)
       · have:=k3 k e;omega
theorem Ofr.lf (w:World) (lo:Nat) (x:Value):Ofr w lo (.leaf x) x:=⟨[],.leaf x,List.nodup_nil,fun k hk=>by cases hk⟩
section
variable {α : Type}
def setRow (w:World) (g o:Nat):List Value→World
 | []=>w
 | u::us=>setRow (w.setCell ⟨g,o,none⟩ u) g (o+1) us
def setDs (ds:List Dt) (o:Nat):List Value→List Dt
 | []=>ds
 | u::us=>setDs (ds.set o (.leaf u)) (o+1) us
theorem setDs_at (us:List Value):∀(ds:List Dt) (o j:Nat),o+us.length≤ds.length→(setDs ds o us)[j]?= if o≤j∧j<o+us.length then(us[j-o]?).map Dt.leaf else ds[j]?:=by
 induction us with
 | nil=>intro ds o j h;rw[setDs,if_neg (by simp)]
 | cons u us ih=>
   intro ds o j h
   rw[List.length_cons] at h
   rw[setDs,ih _ _ _ (by rw[List.length_set];omega),List.length_cons]
   by_cases e:o=j
   · subst e
     rw[if_neg (by omega),if_pos (by omega),List.getElem?_set_self (by omega),Nat.sub_self]
     rfl
   · rw[List.getElem?_set_ne e]
     by_cases e2:o+1≤j∧j<o+1+us.length
     · rw[if_pos e2,if_pos (by omega),show j-o=(j-(o+1))+1 by omega,List.getElem?_cons_succ]
     · rw[if_neg e2,if_neg (by omega)]
theorem setDs_flt {enc:α→List Value} {m:Nat} (hm:∀z,(enc z).length=m) (hm0:0<m) (zs:List α) (z:α) {k:Nat} (hk:k<zs.length):setDs (fltC enc zs) (k*m) (enc z)=fltC enc (zs.set k z):=by
 have hkm:k*m+m≤zs.length*m:=by
  have:=Nat.mul_le_mul_right m (show k+1≤zs.length by omega)
  rw[Nat.add_mul] at this;omega
 apply List.ext_getElem?
 intro j
 rw[setDs_at _ _ _ _ (by rw[hm,ξab hm];exact hkm),hm]
 obtain⟨i,r,hr,rfl⟩:∃i r,r<m∧j=i*m+r:=⟨j/m,j%m,Nat.mod_lt _ hm0,by rw[Nat.mul_comm];exact(Nat.div_add_mod j m).symm⟩
 rw[ξaR hm _ i r hr,ξaR hm _ i r hr]
 by_cases e:k=i
 · subst e
   rw[if_pos (by omega),List.getElem?_set_self hk,Nat.add_sub_cancel_left]
   rfl
 · rw[List.getElem?_set_ne e,if_neg]
   intro h
   rcases Nat.lt_or_gt_of_ne e with h2 | h2
   · have:=Nat.mul_le_mul_right m (show k+1≤i by omega)
     rw[Nat.add_mul] at this;omega
   · have:=Nat.mul_le_mul_right m (show i+1≤k by omega)
     rw[Nat.add_mul] at this;omega
theorem Ofr.putRow {base size:Nat} {v:Value} {g off n cap:Nat} (hv:v= .slice (some ⟨g,off,none⟩) n cap) (us:List Value):∀(w:World) (ds:List Dt) (o:Nat),Ofr w base (.rows size ds) v→base≤w.heap.size→o+us.length≤ds.length→
 Ofr (setRow w g (off+o) us) base (.rows size (setDs ds o us)) v:=by
 induction us with
 | nil=>intro w ds o h _ _;exact h
 | cons u us ih=>
   intro w ds o h hb hl
   rw[List.length_cons] at hl
   obtain⟨g',off',n',cap',e,-,-,-,-,h2⟩:=h.put hb (ξb _ _) (Ofr.lf w w.heap.size u) (j:=o) (by omega)
   rw[hv] at e
   simp only[Value.slice.injEq,Option.some.injEq,Addr.mk.injEq,and_true] at e
   obtain⟨⟨rfl,rfl⟩,rfl,rfl⟩:=e
   exact ih _ _ (o+1) h2 (by simpa using hb) (by rw[List.length_set];omega)
theorem Ofr.frozen {w:World} {base size g off n cap:Nat} {ds:List Dt} (h:Ofr w base (.rows size ds) (.slice (some ⟨g,off,none⟩) n cap)) (j:Nat):w.frozen? ⟨g,j,none⟩=false:=by
 obtain⟨fp,q,_⟩:=h
 cases q with
 | mk hl hu hf hn hc hgg hcs ht hd=>exact ξz _ _ _ _ _ hgg
theorem flt_put {enc:α→List Value} {m base:Nat} {w:World} {v:Value} {zs:List α} (hm:∀z,(enc z).length=m) (hm0:0<m) (h:Ofr w base (flt m enc zs) v) (hb:base≤w.heap.size) {k:Nat} (hk:k<zs.length) (z:α):
 ∃g off cap,v= .slice (some ⟨g,off,none⟩) zs.length cap∧base≤g∧g<w.heap.size∧(∀r,r<m→ ∃u0,w.cell? ⟨g,off+k*m+r,none⟩=some u0)∧(∀j,w.frozen? ⟨g,j,none⟩=false)∧
  Ofr (setRow w g (off+k*m) (enc z)) base (flt m enc (zs.set k z)) v:=by
 have hkm:k*m+m≤zs.length*m:=by
  have:=Nat.mul_le_mul_right m (show k+1≤zs.length by omega)
  rw[Nat.add_mul] at this;omega
 have hl:=ξab hm zs
 obtain⟨g,off,n,cap,rfl,h1,h2,-,-,-⟩:=h.put hb (ξb _ _) (Ofr.lf w w.heap.size undef) (j:=k*m) (by omega)
 have hn:zs.length=n:=by
  obtain⟨a,n',cap',e,HN,-,-,-⟩:=h.rd.opn
  simp only[Value.slice.injEq] at e
  obtain⟨-,rfl,-⟩:=e
  have:=HN.out
  rw[hl] at this
  exact Nat.eq_of_mul_eq_mul_right hm0 this
 subst hn
 refine⟨g,off,cap,rfl,h1,h2,fun r hr=> ?_,fun j=> ?_,?_⟩
 · obtain⟨g',off',n',cap',e,-,-,⟨u0,h3⟩,-,-⟩:=h.put hb (ξb _ _) (Ofr.lf w w.heap.size undef) (j:=k*m+r) (by omega)
   simp only[Value.slice.injEq,Option.some.injEq,Addr.mk.injEq,and_true] at e
   obtain⟨⟨rfl,rfl⟩,-,rfl⟩:=e
   rw[←Nat.add_assoc] at h3
   exact⟨u0,h3⟩
 · exact h.frozen j
 · have:=h.putRow rfl (enc z) w (fltC enc zs) (k*m) hb (by rw[hm];omega)
   rw[setDs_flt hm hm0 zs z hk] at this
   exact this
end
section
variable {α : Type}
theorem flatV_at {enc:α→List Value} {m:Nat} (hm:∀z,(enc z).length=m):∀(zs:List α) (i r:Nat),r<m→(zs.flatMap enc)[i*m+r]?= (zs[i]?).bind fun z=>(enc z)[r]?
 | [],i,r,_=>by simp
 | z::zs,0,r,h=>by
   rw[List.flatMap_cons,List.getElem?_append_left (by rw[hm];omega)]
   simp
 | z::zs,i+1,r,h=>by
   rw[List.flatMap_cons,List.getElem?_append_right (by rw[hm,Nat.add_mul];omega),hm,show(i+1)*m+r-m=i*m+r by rw[Nat.add_mul];omega,flatV_at hm zs i r h]
   simp
end
section
variable {α : Type}
theorem fltC_setCell {enc:α→List Value} {m:Nat} (hm:∀z,(enc z).length=m) (hm0:0<m) (nil:α) (zs:List α) {i r:Nat} (hi:i<zs.length) (hr:r<m) (u:Value) (z':α) (h:enc z'=(enc (zs[i]?.getD nil)).set r u):
 (fltC enc zs).set (i*m+r) (.leaf u)=fltC enc (zs.set i z'):=by
 apply List.ext_getElem?
 intro j
 obtain⟨k,q,hq,rfl⟩:∃k q,q<m∧j=k*m+q:=⟨j/m,j%m,Nat.mod_lt _ hm0,by rw[Nat.mul_comm];exact(Nat.div_add_mod j m).symm⟩
 have hlen:=ξab hm zs
 have him:i*m+r<(fltC enc zs).length:=by
  rw[hlen]
  have:=Nat.mul_le_mul_right m (show i+1≤zs.length by omega)
  rw[Nat.add_mul] at this;omega
 rw[ξaR hm (zs.set i z') k q hq]
 by_cases e:i=k
 · subst e
   rw[List.getElem?_set_self hi,Option.bind_some,h]
   by_cases e2:r=q
   · subst e2
     rw[List.getElem?_set_self him,List.getElem?_set_self (by rw[hm];exact hr)];rfl
   · rw[List.getElem?_set_ne (by omega),List.getElem?_set_ne e2,ξaR hm zs i q hq,ξg hi];rfl
 · rw[List.getElem?_set_ne e,List.getElem?_set_ne (fun h2=>e ?_),ξaR hm zs k q hq]
   rcases Nat.lt_or_gt_of_ne e with h3 | h3
   · have:=Nat.mul_le_mul_right m (show i+1≤k by omega)
     rw[Nat.add_mul] at this;omega
   · have:=Nat.mul_le_mul_right m (show k+1≤i by omega)
     rw[Nat.add_mul] at this;omega
theorem flt_putC {enc:α→List Value} {m base:Nat} {w:World} {v:Value} {zs:List α} (hm:∀z,(enc z).length=m) (hm0:0<m) (nil:α) (h:Ofr w base (flt m enc zs) v) (hb:base≤w.heap.size) {k r:Nat} (hk:k<zs.length) (hr:r<m) (u:Value) (z':α) (hz:enc z'=(enc (zs[k]?.getD nil)).set r u):
 ∃g off cap,v= .slice (some ⟨g,off,none⟩) zs.length cap∧base≤g∧g<w.heap.size∧(∃u0,w.cell? ⟨g,off+k*m+r,none⟩=some u0)∧w.frozen? ⟨g,off+k*m+r,none⟩=false∧
  Ofr (w.setCell ⟨g,off+k*m+r,none⟩ u) base (flt m enc (zs.set k z')) v:=by
 obtain⟨g,off,cap,rfl,h1,h2,h3,h4,-⟩:=flt_put hm hm0 h hb hk z'
 have hkm:k*m+r<(fltC enc zs).length:=by
  rw[ξab hm]
  have:=Nat.mul_le_mul_right m (show k+1≤zs.length by omega)
  rw[Nat.add_mul] at this;omega
 have:=h.putRow rfl [u] w (fltC enc zs) (k*m+r) hb (show k*m+r+1≤_ from hkm)
 simp only[setRow,setDs] at this
 rw[fltC_setCell hm hm0 nil zs hk hr u z' hz,←Nat.add_assoc] at this
 exact⟨g,off,cap,rfl,h1,h2,h3 r hr,h4 _,this⟩
theorem ξcz {P:Program} {ops:Array Oper} {rest:List Oper} {o:Oper} {a:Act} {Q:Exit→Act→World→Prop} {w:World} {enc:α→List Value} {m:Nat} (hm:∀z,(enc z).length=m) (hm0:0<m) (nil:α) (h1:∀z,∀u∈enc z,u.oneCell'=true)
 (hgd:o.guard=none) (s x:Operand) (T e:TypeId) (ho:o.op= .call {callee:= .builtin .append,args:=#[s,x],argTypes:=#[T,T]}) (ht:P.underlying T=some (.slice e)) (z:Value) (bytes:Nat)
 (hinfo:(P.info? e).map (fun i=>(i.zero,i.size,i.bytes))=some (some z,m,bytes)) (hzs:z.cells.size=m) (hby:bytes≤1000)
 (base:Nat) (v:Value) (n:Nat) (us:List Value) (hs:a.eval s=v) (hown:w.ownsRow base e m v n us)
 (zs:List α) (b off k cap:Nat) (hx:a.eval x= .slice (some ⟨b,off,none⟩) k cap) (hk:zs.length=k) (hc:∀i,i<k→ ∀r u,(enc (zs[i]?.getD nil))[r]?= some u→w.cell? ⟨b,off+i*m+r,none⟩=some u)
 (hn:n+k≤1000000) (hbase:base≤w.heap.size)
 (h:∀v' w',w'.ownsRow base e m v' (n+k) (us++zs.flatMap enc)→w.grownBy w' v.ownBlock→wpList P ops Q rest (a.put o.dst v') w'):wpList P ops Q (o::rest) a w:=by
 obtain⟨i0,hi,hz0,hz1,hz2⟩:=info_parts hinfo
 have hfl:(zs.flatMap enc).length=k*m:=by
  have:=ξab hm zs
  unfold fltC at this
  rw[←hk,←this,←List.map_flatMap,List.length_map]
 refine wpList_append_own _ hgd s x T ho base e i0 z m bytes ht hi hz0 hz1 hz2 hzs hm0 v n us hs hown ⟨b,off,none⟩ k cap (zs.flatMap enc) hx hfl (fun j u hu=> ?_) (fun u hu=> ?_) (by unfold maxLen;omega) ?_ hbase (fun v' w' g1 g2 _=>h v' w' g1 g2)
 · obtain⟨i,r,hr,rfl⟩:∃i r,r<m∧j=i*m+r:=⟨j/m,j%m,Nat.mod_lt _ hm0,by rw[Nat.mul_comm];exact(Nat.div_add_mod j m).symm⟩
   have hik:i<k:=by
    have hlt:i*m+r<k*m:=by rw[←hfl];exact(ξl hu).1
    by_cases e2:i<k
    · exact e2
    · have:=Nat.mul_le_mul_right m (Nat.le_of_not_lt e2);omega
   have hiz:i<zs.length:=by rw[hk];exact hik
   rw[flatV_at hm zs i r hr,ξg hiz,Option.bind_some] at hu
   have:=hc i hik r u (by rw[ξg hiz];exact hu)
   have ea:(⟨b,off,none⟩:Addr).add (i*m+r)=⟨b,off+i*m+r,none⟩:=by
    unfold Addr.add
    split
    · rename_i h0;rw[Nat.add_assoc,h0,Nat.add_zero]
    · simp[Nat.add_assoc]
   rw[ea];exact this
 · obtain⟨zz,-,h2⟩:=List.mem_flatMap.1 hu
   exact h1 zz u h2
 · have:(n+k)*bytes≤1000000*1000:=Nat.mul_le_mul hn hby
   omega
end
theorem groE_one (z:Gro):∀u∈groE z,u.oneCell'=true:=by
 intro u hu;simp[groE] at hu;rcases hu with rfl | rfl | rfl | rfl | rfl | rfl <;> rfl
theorem Tryz.infoGro:(Tryz.prog.info? 55).map (fun i=>(i.zero,i.size,i.bytes))=some (some (.agg #[.int .i64 0,.int .i64 0,.int .i64 0,.int .i64 0,.int .i64 0,.int .i64 0]),6,48):=by kernel_rfl
theorem cloneGro_any (v:Value) (gs:List Gro) (w:World) (h:Rdt w (flt 6 groE gs) v) (h0:0<gs.length) (hl:gs.length≤1000):
 Calls Tryz.prog 75 #[v] w fun e w'=>∃v',e= .returned v'∧Ofr w' w.heap.size (flt 6 groE gs) v'∧Below w.heap.size w w':=by
 obtain⟨a,n,cap,rfl,HN,hnc,hn,ha⟩:=ξC (m:=6) (enc:=groE) (fun _=>rfl) (by omega) nilG h
 rw[HN.out] at h0 hl
 obtain⟨b,off,rfl,hb,hc⟩:=ha h0
 have hne:∀w,(binOp .eql 39 (.slice (some ⟨b,off,none⟩) n cap) (.slice none 0 0)).run Tryz.prog w= .ok (.bool false) w:=fun _=>rfl
 have hb1:=(ξb w.heap.size w).alloc (ξr _) (.cells #[] 55)
 have HO:=ξh (World.ownsRow_made (base:=w.heap.size) (e:=55) (size:=6) w #[] 0 (ξr _) (ξu _) (by simp))
 have HC:=ξh (fun i hi r u hu=>(hb1.cell (p:=⟨b,off+i*6+r,none⟩) hb).trans (hc i hi r u hu))
 have HB:=ξh hb1
 clear hb1 hc ha h
 go_enter Tryz.func75,Tryz.ntmps75
 go_wp2_with (at_builtin;go_loud (refine ξcz (m:=6) (enc:=groE) (fun _=>rfl) (by omega) nilG groE_one rfl (.tmp 5) (.tmp 6) 39 55 rfl Tryz.underlying39 _ 48 Tryz.infoGro rfl (by omega) w.heap.size (.slice (some ⟨w.heap.size,0,none⟩) 0 0) 0 [] rfl HO.out gs b off n cap rfl HN.out HC.out (by omega) HB.size ?_;intro v3 w3 hown hgr;have HO3:=ξh hown;have HB3:=ξh (HB.grown hgr HB.size (fun q hq=>(HO.lt q hq).1));clear hown hgr))
 go_ret
 exact⟨_,rfl,ξbY (enc:=groE) (by simpa using HO3.out),HB3.out⟩
def delG (g:Gro) (d:Int):Gro:=⟨g.d,g.s+d,g.e+d⟩
def delL (gs:List Gro) (i:Nat) (d:Int):List Gro:=gs.set i (delG (gs[i]?.getD nilG) d)
def delOk0 (n:Net) (gs:List Gro) (i d:Int):Bool:=ξQ n gs&&inB i 0 ((gs.length:Int)-1)&&inB d (-8) 8
def ξad (n:Net) (gs:List Gro) (i d:Int):Bool:=delOk0 n gs i d&&ξQ n (delL gs i.toNat d)
def delR (n:Net) (gs:List Gro) (i d:Int):List Gro:=if ξad n gs i d then delL gs i.toNat d else[]
def DelP (n:Net) (gs:List Gro) (i d:Int) (w:World) (e:Ending) (w':World):Prop:=∃v,e= .returned (.tuple #[v,.bool (ξad n gs i d)])∧Ofr w' w.heap.size (flt 6 groE (delR n gs i d)) v∧Below w.heap.size w w'
theorem DelP.no {n:Net} {gs:List Gro} {i d:Int} {w w':World} {v:Value} (h:ξad n gs i d=false) (ho:Ofr w' w.heap.size (.rows 6 []) v) (hb:Below w.heap.size w w'):DelP n gs i d w (.returned (.tuple #[v,.bool false])) w':=
 ⟨v,by rw[h],by rw[show delR n gs i d=[] by unfold delR;rw[h];rfl];exact ho,hb⟩
theorem DelP.yes {n:Net} {gs:List Gro} {i d:Int} {w w':World} {v:Value} (h:ξad n gs i d=true) (ho:Ofr w' w.heap.size (flt 6 groE (delL gs i.toNat d)) v) (hb:Below w.heap.size w w'):DelP n gs i d w (.returned (.tuple #[v,.bool true])) w':=
 ⟨v,by rw[h],by rw[show delR n gs i d=delL gs i.toNat d by unfold delR;rw[if_pos h]];exact ho,hb⟩
theorem gro_bounds {n:Net} {gs:List Gro} (h:ξQ n gs=true) {i:Nat} (hi:i<gs.length):0≤(gs[i]?.getD nilG).s∧(gs[i]?.getD nilG).s≤(gs[i]?.getD nilG).e∧(gs[i]?.getD nilG).e<8:=by
 unfold ξQ at h
 simp only[Bool.and_eq_true,Bool.not_eq_true',List.any_eq_false] at h
 have hx:groOk n.ns.length gs[i]=true:=by have:=h.2 gs[i] (ξj hi);simpa using this
 rw[ξg hi,Option.getD_some]
 unfold groOk at hx
 simp only[Bool.and_eq_true,decide_eq_true_eq] at hx
 have h2:=ξO hx.1.2
 omega
theorem ξcb (v u:Value) (n:Net) (gs:List Gro) (i d:Int) (w:World) (h:NetR w v n) (hg:Rdt w (flt 6 groE gs) u):
 Calls Tryz.prog 25 #[v,u,.int .i64 i,.int .i64 d] w (DelP n gs i d w):=by
 have HVG:=ξh (fun w' (hb:Below w.heap.size w w')=>ξat v u n gs w' (h.behind hb) (hg.behind hb))
 have HV2:=ξh (fun(u':Value) (gs':List Gro) w' (hb:Below w.heap.size w w') (hg':Rdt w' (flt 6 groE gs') u')=>ξat v u' n gs' w' (h.behind hb) hg')
 have HCL:=ξh (fun w' (hb:Below w.heap.size w w') h0 hl=>cloneGro_any u gs w' (hg.behind hb) h0 hl)
 obtain⟨u1,u2,rfl,r1,r2,-⟩:=h
 obtain⟨a1,m1,c1,rfl⟩:=Rdt.slice' r1
 obtain⟨a2,m2,c2,rfl⟩:=Rdt.slice' r2
 obtain⟨a3,m3,c3,rfl,HN3,hc3,hm3,-⟩:=ξC (m:=6) (enc:=groE) (fun _=>rfl) (by omega) nilG hg
 obtain⟨bx,bc,blt,-⟩:=ξD w #[.slice a1 m1 c1,.slice a2 m2 c2] 35
 have HBX:=ξh bx
 have q0:=bc 0 (.slice a1 m1 c1) rfl
 have q1:=bc 1 (.slice a2 m2 c2) rfl
 have HOK0:=ξh (show delOk0 n gs i d=(ξQ n gs&&inB i 0 ((m3:Int)-1)&&inB d (-8) 8) by unfold delOk0;rw[HN3.out])
 have HOK:=ξh (show ξad n gs i d=(delOk0 n gs i d&&ξQ n (delL gs i.toNat d)) from rfl)
 have H12:=ξh (show ξQ n gs=true→m3≤12 from fun e=>by unfold ξQ at e;simp only[Bool.and_eq_true,decide_eq_true_eq] at e;have:=HN3.out;omega)
 have HBD:=ξh (fun(e:ξQ n gs=true) (j:Nat) hj=>gro_bounds e (i:=j) hj)
 have HNO:=ξh (fun w' v (ho:Ofr w' w.heap.size (.rows 6 []) v) hb (e:ξad n gs i d=false)=>DelP.no e ho hb)
 have HYE:=ξh (fun w' v (ho:Ofr w' w.heap.size (flt 6 groE (delL gs i.toNat d)) v) hb (e:ξad n gs i d=true)=>DelP.yes e ho hb)
 clear bx bc r1 r2 hg
 go_enter Tryz.func25,Tryz.ntmps25
 go_wp2_with fail
 have HV1:=ξh (HVG.out _ HBX.out)
 generalize w.alloc (.cells #[.slice a1 m1 c1,.slice a2 m2 c2] 35)=w1 at *
 cases hgk:ξQ n gs
 · have HE:=ξh (show ξad n gs i d=false by rw[HOK.out,HOK0.out,hgk];rfl)
   rw[hgk] at HV1
   refine HV1.mono ?_
   rintro e w2 ⟨rfl,b2⟩
   have HB2:=ξh (HBX.trans (b2.mono HBX.size))
   clear b2 hgk
   go_wp2
   go_ret2
   exact HNO.out _ _ (Ofr.nil _ _ _) HB2.out HE.out
 have h12:=H12.out hgk
 have HBD2:=ξh (HBD.out hgk)
 rw[hgk] at HV1
 refine HV1.mono ?_
 rintro e w2 ⟨rfl,b2⟩
 have HB2:=ξh (HBX.trans (b2.mono HBX.size))
 have p0:=(b2.cell blt).trans q0
 have p1:=(b2.cell blt).trans q1
 have blt2:=ξq blt b2.size
 clear b2 q0 q1
 cases hin:inB i 0 ((m3:Int)-1)
 · have HE:=ξh (show ξad n gs i d=false by rw[HOK.out,HOK0.out,hin];simp)
   clear hgk
   go_wp2_with (go_at_call 74;refine(ξE _ _ _ _).mono ?_;rintro e w' ⟨rfl,rfl⟩;rw[hin])
   go_ret2
   exact HNO.out _ _ (Ofr.nil _ _ _) HB2.out HE.out
 have hib:=ξO hin
 cases hdn:inB d (-8) 8
 · have HE:=ξh (show ξad n gs i d=false by rw[HOK.out,HOK0.out,hdn];simp)
   clear hgk
   go_wp2_with (go_at_call 74;refine(ξE _ _ _ _).mono ?_;rintro e w' ⟨rfl,rfl⟩;first | rw[hin] | rw[hdn])
   go_ret2
   exact HNO.out _ _ (Ofr.nil _ _ _) HB2.out HE.out
 have hdb:=ξO hdn
 have HE0:=ξh (show ξad n gs i d=ξQ n (delL gs i.toNat d) by rw[HOK.out,HOK0.out,hgk,hin,hdn];rfl)
 obtain⟨k,hk⟩:∃k:Nat,i=(k:Int):=⟨i.toNat,by omega⟩
 have HKE:=ξh (show i.toNat=k by omega)
 have hk1:(k:Int)<(m3:Int):=by omega
 have HCL2:=ξh (HCL.out w2 HB2.out (by rw[HN3.out];omega) (by rw[HN3.out];omega))
 have hgb:=HBD2.out k (by rw[HN3.out];omega)
 rw[HKE.out] at HYE HE0
 clear hgk HKE HOK HOK0 HV1 HVG HCL HBD HBD2
 subst hk
 have hkl:k<gs.length:=by rw[HN3.out];omega
 have HKL:=ξh hkl
 have HSET:=ξh (show(gs.set k ⟨(gs[k]?.getD nilG).d,(gs[k]?.getD nilG).s+d,(gs[k]?.getD nilG).e⟩).set k (delG (gs[k]?.getD nilG) d)=delL gs k d by rw[List.set_set];rfl)
 have HGK:=ξh (show(gs.set k ⟨(gs[k]?.getD nilG).d,(gs[k]?.getD nilG).s+d,(gs[k]?.getD nilG).e⟩)[k]?.getD nilG=⟨(gs[k]?.getD nilG).d,(gs[k]?.getD nilG).s+d,(gs[k]?.getD nilG).e⟩ by rw[List.getElem?_set_self hkl];rfl)
 clear hkl
 obtain⟨hs0,hs1,hs2⟩:=hgb
 obtain⟨hd1,hd2⟩:=hdb
 have he0:0≤(gs[k]?.getD nilG).e:=by omega
 have hs7:(gs[k]?.getD nilG).s≤7:=by omega
 have he7:(gs[k]?.getD nilG).e≤7:=by omega
 go_wp2_with fail
 refine(ξE _ _ _ _).mono ?_
 rintro e w' ⟨rfl,rfl⟩
 rw[hin]
 go_wp2_with fail
 refine(ξE _ _ _ _).mono ?_
 rintro e w' ⟨rfl,rfl⟩
 rw[hdn]
 go_wp2_with fail
 refine HCL2.mono ?_
 rintro e w3 ⟨v3,rfl,o3,b3⟩
 obtain⟨g,off,cap,rfl,hg1,hg2,⟨x4,t4⟩,f4,o4⟩:=flt_putC (enc:=groE) (m:=6) (fun _=>rfl) (by omega) nilG o3 b3.size HKL.out (r:=4) (by omega) (.int .i64 ((gs[k]?.getD nilG).s+d)) ⟨(gs[k]?.getD nilG).d,(gs[k]?.getD nilG).s+d,(gs[k]?.getD nilG).e⟩ rfl
 have t4':=ξa8 (enc:=groE) (m:=6) (fun _=>rfl) (by omega) nilG o3.rd (i:=k) (r:=4) HKL.out rfl
 have t5:=ξa8 (enc:=groE) (m:=6) (fun _=>rfl) (by omega) nilG o3.rd (i:=k) (r:=5) HKL.out rfl
 obtain⟨g',off',cap',ev,-,-,⟨x5,t5'⟩,f5,o5⟩:=flt_putC (enc:=groE) (m:=6) (fun _=>rfl) (by omega) nilG o4 (by simpa using b3.size) (k:=k) (by rw[List.length_set];exact HKL.out) (r:=5) (by omega) (.int .i64 ((gs[k]?.getD nilG).e+d)) (delG (gs[k]?.getD nilG) d) (by rw[HGK.out];rfl)
 simp only[Value.slice.injEq,Option.some.injEq,Addr.mk.injEq,and_true] at ev
 obtain⟨⟨rfl,rfl⟩,-,rfl⟩:=ev
 rw[HSET.out,HN3.out] at o5
 rw[HN3.out]
 clear t4 t5'
 have f5':w3.frozen? ⟨g,off+k*6+5,none⟩=false:=by simpa using f5
 clear f5
 have n0:=(b3.cell blt2).trans p0
 have n1:=(b3.cell blt2).trans p1
 have hne:¬w.heap.size=g:=by omega
 have HO5:=ξh o5
 have HB5:=ξh (((HB2.trans (b3.mono HB2.size)).setCell (p:=⟨g,off+k*6+4,none⟩) (show w.heap.size≤g by omega) (.int .i64 ((gs[k]?.getD nilG).s+d))).setCell (p:=⟨g,off+k*6+5,none⟩) (show w.heap.size≤g by omega) (.int .i64 ((gs[k]?.getD nilG).e+d)))
 have HW:=ξh (show w.heap.size≤w2.heap.size from HB2.size)
 clear o3 o4 o5 b3 hg1 hg2 HGK HSET HCL2 p0 p1
 have HVV:=ξh (HV2.out _ (delL gs k d) _ HB5.out HO5.rd)
 generalize gs[k]?.getD nilG=z at *
 generalize delL gs k d=gs' at *
 go_wp2_with fail
 cases hg2k:ξQ n gs'
 all_goals
  rw[hg2k] at HVV HE0
  clear hg2k
  refine HVV.mono ?_
  rintro e w6 ⟨rfl,b6⟩
  have HB6:=ξh (HB5.trans (b6.mono HB5.size))
  have HO6:=ξh (HO5.below b6)
  clear b6
  go_wp2
  go_ret2
 · exact HNO.out _ _ (Ofr.nil _ _ _) HB6.out HE0.out
 · exact HYE.out _ _ (HO6.mono HW.out) HB6.out HE0.out
theorem setRow_eq (w:World) (g:Nat) (us:List Value):∀(w:World) (o:Nat),setRow w g o us=w.setCells g o us:=by
 induction us with
 | nil=>intro w o;rfl
 | cons u us ih=>intro w o;exact ih _ _
theorem flt_putX {α:Type} {enc:α→List Value} {m base:Nat} {w:World} {v:Value} {zs:List α} (hm:∀z,(enc z).length=m) (hm0:0<m) (h:Ofr w base (flt m enc zs) v) (hb:base≤w.heap.size) {k:Nat} (hk:k<zs.length):
 ∃g off cap,v= .slice (some ⟨g,off,none⟩) zs.length cap∧base≤g∧g<w.heap.size∧(∀w',Below w.heap.size w w'→w'.there g (off+k*m) m∧ ∀z,Ofr (w'.setCells g (off+k*m) (enc z)) base (flt m enc (zs.set k z)) v):=by
 obtain⟨nil⟩:Nonempty α:=⟨zs[k]⟩
 obtain⟨g,off,cap,rfl,h1,h2,-⟩:=flt_put hm hm0 h hb hk nil
 refine⟨g,off,cap,rfl,h1,h2,fun w' hw'=>⟨fun j hj=> ?_,fun z=> ?_⟩⟩
 · obtain⟨g',off',cap',e,-,-,q1,q2,-⟩:=flt_put hm hm0 (h.below hw') (ξs hb hw'.size) hk nil
   simp only[Value.slice.injEq,Option.some.injEq,Addr.mk.injEq,and_true] at e
   obtain⟨⟨rfl,rfl⟩,-,rfl⟩:=e
   obtain⟨u0,hu0⟩:=q1 j hj
   exact⟨by rw[hu0];rfl,q2 _⟩
 · obtain⟨g',off',cap',e,-,-,-,-,q3⟩:=flt_put hm hm0 (h.below hw') (ξs hb hw'.size) hk z
   simp only[Value.slice.injEq,Option.some.injEq,Addr.mk.injEq,and_true] at e
   obtain⟨⟨rfl,rfl⟩,-,rfl⟩:=e
   rw[setRow_eq w] at q3
   exact q3
theorem specDelay_any (v u:Value) (n:Net) (gs:List Gro) (i d:Int) (w:World) (h:NetR w v n) (hg:Rdt w (flt 6 groE gs) u):
 Calls Tryz.prog 26 #[v,u,.int .i64 i,.int .i64 d] w (DelP n gs i d w):=by
 have HVG:=ξh (fun w' (hb:Below w.heap.size w w')=>ξbS v u n gs w' (h.behind hb) (hg.behind hb))
 have HV2:=ξh (fun(u':Value) (gs':List Gro) w' (hb:Below w.heap.size w w') (hg':Rdt w' (flt 6 groE gs') u')=>ξbS v u' n gs' w' (h.behind hb) hg')
 obtain⟨u1,u2,rfl,r1,r2,-⟩:=h
 obtain⟨a1,m1,c1,rfl⟩:=Rdt.slice' r1
 obtain⟨a2,m2,c2,rfl⟩:=Rdt.slice' r2
 obtain⟨a3,m3,c3,rfl,HN3,hc3,hm3,ha3⟩:=ξC (m:=6) (enc:=groE) (fun _=>rfl) (by omega) nilG hg
 obtain⟨bx,bc,blt,-⟩:=ξD w #[.slice a1 m1 c1,.slice a2 m2 c2] 35
 have HBX:=ξh bx
 have HA:=ξh ha3
 have q0:=bc 0 (.slice a1 m1 c1) rfl
 have q1:=bc 1 (.slice a2 m2 c2) rfl
 have HOK0:=ξh (show delOk0 n gs i d=(ξQ n gs&&inB i 0 ((m3:Int)-1)&&inB d (-8) 8) by unfold delOk0;rw[HN3.out])
 have HOK:=ξh (show ξad n gs i d=(delOk0 n gs i d&&ξQ n (delL gs i.toNat d)) from rfl)
 have H12:=ξh (show ξQ n gs=true→m3≤12 from fun e=>by unfold ξQ at e;simp only[Bool.and_eq_true,decide_eq_true_eq] at e;have:=HN3.out;omega)
 have HBD:=ξh (fun(e:ξQ n gs=true) (j:Nat) hj=>gro_bounds e (i:=j) hj)
 have HNO:=ξh (fun(w2:World) (hb:Below w.heap.size w w2) (e:ξad n gs i d=false)=>DelP.no (w':=w2.alloc (.cells #[] 55)) (v:= .slice (some ⟨w2.heap.size,0,none⟩) 0 0) e (Ofr.of_row (us:=[]) (World.ownsRow_made w2 #[] 0 hb.size (ξu _) (by simp))) (hb.alloc hb.size _))
 have HYE:=ξh (fun w' v (ho:Ofr w' w.heap.size (flt 6 groE (delL gs i.toNat d)) v) hb (e:ξad n gs i d=true)=>DelP.yes e ho hb)
 clear bx bc r1 r2 hg ha3
 go_enter Tryz.func26,Tryz.ntmps26
 go_wp2_with fail
 have HV1:=ξh (HVG.out _ HBX.out)
 generalize w.alloc (.cells #[.slice a1 m1 c1,.slice a2 m2 c2] 35)=w1 at *
 cases hgk:ξQ n gs
 · have HE:=ξh (show ξad n gs i d=false by rw[HOK.out,HOK0.out,hgk];rfl)
   rw[hgk] at HV1
   refine HV1.mono ?_
   rintro e w2 ⟨rfl,b2⟩
   have HB2:=ξh (HBX.trans (b2.mono HBX.size))
   clear b2 hgk
   go_wp2
   go_ret2
   exact HNO.out _ HB2.out HE.out
 have h12:=H12.out hgk
 have HBD2:=ξh (HBD.out hgk)
 rw[hgk] at HV1
 refine HV1.mono ?_
 rintro e w2 ⟨rfl,b2⟩
 have HB2:=ξh (HBX.trans (b2.mono HBX.size))
 have p0:=(b2.cell blt).trans q0
 have p1:=(b2.cell blt).trans q1
 have blt2:=ξq blt b2.size
 clear b2 q0 q1
 cases hin:inB i 0 ((m3:Int)-1)
 · have HE:=ξh (show ξad n gs i d=false by rw[HOK.out,HOK0.out,hin];simp)
   clear hgk
   go_wp2_with (go_at_call 77;refine(ξI _ _ _ _).mono ?_;rintro e w' ⟨rfl,rfl⟩;rw[hin])
   go_ret2
   exact HNO.out _ HB2.out HE.out
 have hib:=ξO hin
 cases hdn:inB d (-8) 8
 · have HE:=ξh (show ξad n gs i d=false by rw[HOK.out,HOK0.out,hdn];simp)
   clear hgk
   go_wp2_with (go_at_call 77;refine(ξI _ _ _ _).mono ?_;rintro e w' ⟨rfl,rfl⟩;first | rw[hin] | rw[hdn])
   go_ret2
   exact HNO.out _ HB2.out HE.out
 have hdb:=ξO hdn
 have HE0:=ξh (show ξad n gs i d=ξQ n (delL gs i.toNat d) by rw[HOK.out,HOK0.out,hgk,hin,hdn];rfl)
 obtain⟨k,hk⟩:∃k:Nat,i=(k:Int):=⟨i.toNat,by omega⟩
 have HKE:=ξh (show i.toNat=k by omega)
 have hk1:(k:Int)<(m3:Int):=by omega
 have hgb:=HBD2.out k (by rw[HN3.out];omega)
 rw[HKE.out] at HYE HE0
 clear hgk HKE HOK HOK0 HV1 HVG HBD HBD2
 subst hk
 have hkl:k<gs.length:=by rw[HN3.out];omega
 have HKL:=ξh hkl
 clear hkl
 obtain⟨hs0,hs1,hs2⟩:=hgb
 obtain⟨hd1,hd2⟩:=hdb
 have he0:0≤(gs[k]?.getD nilG).e:=by omega
 have hs7:(gs[k]?.getD nilG).s≤7:=by omega
 have he7:(gs[k]?.getD nilG).e≤7:=by omega
 obtain⟨b,off0,rfl,hbs,hcs⟩:=HA.out (by omega)
 have ba:=(ξb w2.heap.size w2).alloc (ξr _) (.cells #[] 55)
 have HO:=ξh (World.ownsRow_made (base:=w2.heap.size) (e:=55) (size:=6) w2 #[] 0 (ξr _) (ξu _) (by simp))
 have HC:=ξh (fun i hi r u hu=>(ba.cell (p:=⟨b,off0+i*6+r,none⟩) (ξq hbs HB2.size)).trans ((HB2.cell hbs).trans (hcs i hi r u hu)))
 have HB:=ξh ba
 have HSET:=ξh (show gs.set k ⟨(gs[k]?.getD nilG).d,(gs[k]?.getD nilG).s+d,(gs[k]?.getD nilG).e+d⟩=delL gs k d from rfl)
 have HBL:=ξh (show w.heap.size<w2.heap.size from blt2)
 have P0:=ξh p0
 have P1:=ξh p1
 clear ba hcs hbs p0 p1
 go_wp2_with fail
 refine(ξI _ _ _ _).mono ?_
 rintro e w' ⟨rfl,rfl⟩
 rw[hin]
 go_wp2_with fail
 refine(ξI _ _ _ _).mono ?_
 rintro e w' ⟨rfl,rfl⟩
 rw[hdn]
 go_wp2_with (first
  | (at_builtin;go_loud (refine ξcz (m:=6) (enc:=groE) (fun _=>rfl) (by omega) nilG groE_one rfl (.tmp 30) (.tmp 31) 39 55 rfl Tryz.underlying39 _ 48 Tryz.infoGro rfl (by omega) w2.heap.size (.slice (some ⟨w2.heap.size,0,none⟩) 0 0) 0 [] rfl HO.out gs b off0 m3 c3 rfl HN3.out HC.out (by omega) HB.size ?_);intro v3 w3 hown hgr;have HB3:=ξh (HB.grown hgr HB.size (fun q hq=>(HO.lt q hq).1));have o3:=ξbY (enc:=groE) (zs:=gs) (by simpa using hown);obtain⟨g,off,cap,rfl,hg1,hg2,hput⟩:=flt_putX (enc:=groE) (m:=6) (fun _=>rfl) (by omega) o3 HB3.size HKL.out;have t0:=ξa8 (enc:=groE) (m:=6) (fun _=>rfl) (by omega) nilG o3.rd (i:=k) (r:=0) HKL.out rfl;have t1:=ξa8 (enc:=groE) (m:=6) (fun _=>rfl) (by omega) nilG o3.rd (i:=k) (r:=1) HKL.out rfl;have t2:=ξa8 (enc:=groE) (m:=6) (fun _=>rfl) (by omega) nilG o3.rd (i:=k) (r:=2) HKL.out rfl;have t3:=ξa8 (enc:=groE) (m:=6) (fun _=>rfl) (by omega) nilG o3.rd (i:=k) (r:=3) HKL.out rfl;have t4:=ξa8 (enc:=groE) (m:=6) (fun _=>rfl) (by omega) nilG o3.rd (i:=k) (r:=4) HKL.out rfl;have t5:=ξa8 (enc:=groE) (m:=6) (fun _=>rfl) (by omega) nilG o3.rd (i:=k) (r:=5) HKL.out rfl;simp only[Nat.add_zero] at t0;rw[HN3.out] at *;have HPUT:=ξh hput;clear hput hown hgr o3)
  | ((show wpList _ _ _ (⟨none,.store 55 (.tmp 50) _,_,_,_,_⟩::_) _ _);have hal:=(ξb w3.heap.size w3).alloc (ξr _) (.cells #[.int .i64 (gs[k]?.getD nilG).d.a,.int .i64 (gs[k]?.getD nilG).d.b,.int .i64 (gs[k]?.getD nilG).d.r,.int .i64 (gs[k]?.getD nilG).d.c,.int .i64 ((gs[k]?.getD nilG).s+d),.int .i64 ((gs[k]?.getD nilG).e+d)] 55);go_loud (refine wpList_store_mid rfl 55 _ _ rfl g (off+k*6) #[.int .i64 (gs[k]?.getD nilG).d.a,.int .i64 (gs[k]?.getD nilG).d.b,.int .i64 (gs[k]?.getD nilG).d.r,.int .i64 (gs[k]?.getD nilG).d.c,.int .i64 ((gs[k]?.getD nilG).s+d),.int .i64 ((gs[k]?.getD nilG).e+d)] rfl rfl (HPUT.out _ hal).1 (by kernel_rfl) (by simp[Value.oneCell']) ?_);have o6:=(HPUT.out _ hal).2 ⟨(gs[k]?.getD nilG).d,(gs[k]?.getD nilG).s+d,(gs[k]?.getD nilG).e+d⟩;rw[HSET.out] at o6;have HO6:=ξh o6;have HB6:=ξh (below_put hg1 (groE ⟨(gs[k]?.getD nilG).d,(gs[k]?.getD nilG).s+d,(gs[k]?.getD nilG).e+d⟩) (off+k*6) (HB3.trans (hal.mono HB3.size)));have e6:(#[.int .i64 (gs[k]?.getD nilG).d.a,.int .i64 (gs[k]?.getD nilG).d.b,.int .i64 (gs[k]?.getD nilG).d.r,.int .i64 (gs[k]?.getD nilG).d.c,.int .i64 ((gs[k]?.getD nilG).s+d),.int .i64 ((gs[k]?.getD nilG).e+d)]:Array Value).toList=groE ⟨(gs[k]?.getD nilG).d,(gs[k]?.getD nilG).s+d,(gs[k]?.getD nilG).e+d⟩:=rfl;rw[e6];generalize (w3.alloc (.cells #[.int .i64 (gs[k]?.getD nilG).d.a,.int .i64 (gs[k]?.getD nilG).d.b,.int .i64 (gs[k]?.getD nilG).d.r,.int .i64 (gs[k]?.getD nilG).d.c,.int .i64 ((gs[k]?.getD nilG).s+d),.int .i64 ((gs[k]?.getD nilG).e+d)] 55)).setCells g (off+k*6) (groE ⟨(gs[k]?.getD nilG).d,(gs[k]?.getD nilG).s+d,(gs[k]?.getD nilG).e+d⟩)=w6 at *;have p0:=(HB6.cell HBL.out).trans P0.out;have p1:=(HB6.cell HBL.out).trans P1.out;clear hal o6 e6 HPUT))
 have HB7:=ξh (HB2.trans (HB6.mono HB2.size))
 have HW2:=ξh (show w.heap.size≤w2.heap.size from HB2.size)
 have HVV:=ξh (HV2.out _ (delL gs k d) _ HB7.out HO6.rd)
 generalize delL gs k d=gs' at *
 cases hg2k:ξQ n gs'
 all_goals
  rw[hg2k] at HVV HE0
  clear hg2k
  refine HVV.mono ?_
  rintro e w8 ⟨rfl,b8⟩
  have HB8:=ξh (HB7.trans (b8.mono HB7.size))
  have HO8:=ξh (HO6.below b8)
  clear b8
  go_wp2
  go_ret2
 · exact HNO.out _ HB8.out HE0.out
 · exact HYE.out _ _ (HO8.mono HW2.out) HB8.out HE0.out
def carX (g:Gro):Int:=g.d.r*(g.e-g.s+1)
def carS (bl:List Int) (gs:List Gro):Nat→Int
 | 0=>0
 | k+1=>if bl.contains (k:Int) then carS bl gs k else carS bl gs k+carX (gwA gs k)
theorem GrsP.bd {n:Net} {gs:List Gro} (h:GrsP n gs) {k:Nat} (hk:k<gs.length):1≤(gwA gs k).d.r∧(gwA gs k).d.r≤1000∧0≤(gwA gs k).s∧(gwA gs k).s≤(gwA gs k).e∧(gwA gs k).e<8:=by
 obtain⟨h1,h2,h3,h4⟩:=h.2 k hk
 unfold demOk inB at h1
 simp only[Bool.and_eq_true,decide_eq_true_eq] at h1
 omega
theorem carX_bd {g:Gro} (h:1≤g.d.r∧g.d.r≤1000∧0≤g.s∧g.s≤g.e∧g.e<8):0≤carX g∧carX g≤8000:=by
 unfold carX
 constructor
 · exact Int.mul_nonneg (by omega) (by omega)
 · have:=Int.mul_le_mul (a:=g.d.r) (c:=1000) (b:=g.e-g.s+1) (d:=8) (by omega) (by omega) (by omega) (by omega)
   omega
theorem carS_bd {n:Net} {gs:List Gro} (h:GrsP n gs) (bl:List Int):∀k,k≤gs.length→0≤carS bl gs k∧carS bl gs k≤8000*(k:Int)
 | 0,_=>by simp[carS]
 | k+1,hk=>by
   have h1:=carS_bd h bl k (by omega)
   have h2:=carX_bd (h.bd (k:=k) (by omega))
   rw[carS]
   split <;> omega
def planC (n:Net) (fs:List Fmt) (gs:List Gro):Int:=if ξa0 n fs gs then carS (ξai n fs gs) gs gs.length else 0
def CarP (n:Net) (fs:List Fmt) (gs:List Gro) (w:World) (e:Ending) (w':World):Prop:=e= .returned (.tuple #[.int .i64 (planC n fs gs),.bool (ξa0 n fs gs)])∧Below w.heap.size w w'
theorem car_step {n:Net} {gs:List Gro} (h:GrsP n gs) (bl:List Int) {k:Nat} (hk:k<gs.length):(∃d d1 x s',IntKind.i64.wrap ((gwA gs k).e-(gwA gs k).s)=d∧wrap64 ((gwA gs k).e-(gwA gs k).s)=d∧IntKind.i64.wrap (d+1)=d1∧wrap64 (d+1)=d1∧IntKind.i64.wrap ((gwA gs k).d.r*d1)=x∧wrap64 ((gwA gs k).d.r*d1)=x∧IntKind.i64.wrap (carS bl gs k+x)=s'∧wrap64 (carS bl gs k+x)=s'∧Hid (bl.contains (k:Int)=false→carS bl gs (k+1)=s'))∧Hid (bl.contains (k:Int)=true→carS bl gs (k+1)=carS bl gs k):=by
 have h0:=h.1
 have h1:=carS_bd h bl k (by omega)
 have hb:=h.bd (k:=k) hk
 have h2:=carX_bd hb
 refine⟨⟨(gwA gs k).e-(gwA gs k).s,(gwA gs k).e-(gwA gs k).s+1,carX (gwA gs k),carS bl gs k+carX (gwA gs k),?_,?_,?_,?_,?_,?_,?_,?_,?_⟩,?_⟩
 · exact ξi _ (by omega)
 · exact ξw _ (by omega)
 · exact ξi _ (by omega)
 · exact ξw _ (by omega)
 · exact ξi _ (by unfold carX at h2;omega)
 · exact ξw _ (by unfold carX at h2;omega)
 · exact ξi _ (by omega)
 · exact ξw _ (by omega)
 · exact fun e=>by rw[carS,e];rfl
 · exact fun e=>by rw[carS,e];rfl
theorem ξcI (v vf vg:Value) (n:Net) (fs:List Fmt) (gs:List Gro) (w:World) (h:NetR w v n) (hf:Rdt w (flt 2 fmE fs) vf) (hg:Rdt w (flt 6 groE gs) vg):
 Calls Tryz.prog 19 #[v,vf,vg] w (CarP n fs gs w):=by
 obtain⟨NP,hNP⟩:∃NP,NP=CarP n fs gs w:=⟨_,rfl⟩
 rw[←hNP]
 have HNP:=ξh hNP
 have HP:=ξh (fun w' (hb:Below w.heap.size w w')=>ξaZ v vf vg n fs gs w' (h.behind hb) (hf.behind hb) (hg.behind hb))
 have hnet:=h
 obtain⟨u1,u2,rfl,-,-,-⟩:=h
 obtain⟨⟨a1,m1,c1,rfl⟩,a2,m2,c2,rfl⟩:=ξF hnet
 obtain⟨af,mf,cf,rfl,-,-,-,-⟩:=ξC (m:=2) (enc:=fmE) (fun _=>rfl) (by omega) ξJ hf
 obtain⟨ag,mg,cg,rfl,HGN,hcg,hmg,hag⟩:=ξC (m:=6) (enc:=groE) (fun _=>rfl) (by omega) nilG hg
 have HAG:=ξh hag
 have HB1:=ξh ((ξb w.heap.size w).alloc (ξr _) (.cells #[.slice a1 m1 c1,.slice a2 m2 c2] 35))
 clear hnet hf hg hNP hag
 go_enter Tryz.func19,Tryz.ntmps19
 go_wp2_with fail
 generalize w.alloc (.cells #[.slice a1 m1 c1,.slice a2 m2 c2] 35)=w1 at *
 refine(HP.out w1 HB1.out).mono ?_
 rintro e w2 ⟨b2,aw,ms,cs,a,m,c,rfl,hpl,hno⟩
 have HB2:=ξh (HB1.trans (b2.mono HB1.size))
 cases hO:ξR n fs gs with
 | none=>
   have HE:=ξh (ξap hO)
   rw[HE.2]
   clear b2 hpl hO hno
   go_wp2
   rw[HNP.out]
   exact⟨by unfold planC;rw[HE.2];rfl,HB2.out⟩
 | some x=>
   have HE:=ξh (ξaf hO).2.2
   have HG:=ξh (ξau hO).2.2.1
   have HO:=ξh ((hpl x.1 x.2 hO).2.1.rd)
   have HRES:=ξh (show planC n fs gs=carS (ξai n fs gs) gs gs.length by unfold planC;rw[HE.out];rfl)
   rw[HE.out]
   clear b2 hpl hO hno
   generalize ξai n fs gs=B at *
   have HC:=ξh (fun k w' (hb:Below w2.heap.size w2 w')=>ξbl (.slice a m c) B k w' (HO.belowAll hb))
   go_wp2_with fail
   go_loopw [11,26] (fun s11 i wr=>∃k:Nat,k≤mg∧i= .int .i64 k∧s11= .int .i64 (carS B gs k)∧Hid (Below w2.heap.size w2 wr)) (fun _ i _=>mg-(intOf i).toNat)
   case atStart=>exact⟨0,by omega,rfl,rfl,ξb _ _⟩
   case round=>
    obtain⟨k,hk,rfl,rfl,HB⟩:=hrel
    by_cases hlt:k<mg
    · have hltI:(k:Int)<(mg:Int):=by omega
      obtain⟨b,off,rfl,hbs,hcs⟩:=HAG.out (by omega)
      have HBE:=ξh (HB2.trans (HB.mono HB2.size))
      have hcw:=fun(r:Nat) (u:Value) (hu:(groE (gs[k]?.getD nilG))[r]?= some u)=>(HBE.cell (p:=⟨b,off+k*6+r,none⟩) hbs).trans (hcs k hlt r u hu)
      have c0:=hcw 0 _ rfl
      have c1:=hcw 1 _ rfl
      have c2:=hcw 2 _ rfl
      have c3:=hcw 3 _ rfl
      have c4:=hcw 4 _ rfl
      have c5:=hcw 5 _ rfl
      simp only[Nat.add_zero] at c0
      obtain⟨⟨d,d1,x,s',e1,e2,e3,e4,e5,e6,e7,e8,HS1⟩,HS2⟩:=car_step HG.out B (k:=k) (by rw[HGN.out];exact hlt)
      have HC1:=ξh (fun w' (hb:Below wr.heap.size wr w')=>HC.out (k:Int) w' (HB.trans (hb.mono HB.size)))
      obtain⟨S,hS⟩:∃S,S=carS B gs k:=⟨_,rfl⟩
      rw[←hS] at e7 e8 HS2 ⊢
      clear hcw hcs hS
      unfold gwA at e1 e2 e5 e6
      generalize gs[k]?.getD nilG=g at *
      go_upto_region 8 with fail
      have n2':=ξn wr (.cells #[.int .i64 g.d.a,.int .i64 g.d.b,.int .i64 g.d.r,.int .i64 g.d.c,.int .i64 g.s,.int .i64 g.e] 55)
      have HB5:=ξh ((ξb wr.heap.size wr).alloc (ξr _) (.cells #[.int .i64 g.d.a,.int .i64 g.d.b,.int .i64 g.d.r,.int .i64 g.d.c,.int .i64 g.s,.int .i64 g.e] 55))
      obtain⟨bq,hbq⟩:∃bq,bq=wr.heap.size:=⟨_,rfl⟩
      rw[←hbq] at n2' ⊢
      clear hbq
      have HX5:=ξh n2'
      clear n2' c0 c1 c2 c3 c4 c5
      generalize wr.alloc (.cells #[.int .i64 g.d.a,.int .i64 g.d.b,.int .i64 g.d.r,.int .i64 g.d.c,.int .i64 g.s,.int .i64 g.e] 55)=w5 at *
      have HB6:=ξh (HB.trans (HB5.mono HB.size))
      have HC2:=ξh (HC1.out w5 HB5.out)
      have z2:=blkc HX5.out (j:=2) (u:= .int .i64 g.d.r) rfl
      have z4:=blkc HX5.out (j:=4) (u:= .int .i64 g.s) rfl
      have z5:=blkc HX5.out (j:=5) (u:= .int .i64 g.e) rfl
      generalize B.contains (k:Int)=q at *
      cases q with
      | false=>
        have HE1:=ξh (HS1.out rfl)
        go_wp2_with (go_at_call 65;refine HC2.mono ?_;rintro e w' ⟨rfl,rfl⟩)
        go_roundw
        case rel=>exact⟨k+1,by omega,by go_num,by rw[HE1.out],HB6.out⟩
        case measure=>simp[intOf];omega
      | true=>
        have HE1:=ξh (HS2.out rfl)
        go_wp2_with (go_at_call 65;refine HC2.mono ?_;rintro e w' ⟨rfl,rfl⟩)
        go_roundw
        case rel=>exact⟨k+1,by omega,by go_num,by rw[HE1.out],HB6.out⟩
        case measure=>simp[intOf];omega
    · obtain rfl:k=mg:=by omega
      rw[HGN.out] at HRES
      generalize carS B gs k=S at *
      go_wp2_with fail
      rw[HNP.out]
      exact⟨by rw[HRES.out,HE.out];rfl,HB2.trans (HB.mono HB2.size)⟩
theorem ξcJ (v vf vg:Value) (n:Net) (fs:List Fmt) (gs:List Gro) (w:World) (h:NetR w v n) (hf:Rdt w (flt 2 fmE fs) vf) (hg:Rdt w (flt 6 groE gs) vg):
 Calls Tryz.prog 15 #[v,vf,vg] w (CarP n fs gs w):=by
 obtain⟨NP,hNP⟩:∃NP,NP=CarP n fs gs w:=⟨_,rfl⟩
 rw[←hNP]
 have HNP:=ξh hNP
 have HP:=ξh (fun w' (hb:Below w.heap.size w w')=>ξbN v vf vg n fs gs w' (h.behind hb) (hf.behind hb) (hg.behind hb))
 have hnet:=h
 obtain⟨u1,u2,rfl,-,-,-⟩:=h
 obtain⟨⟨a1,m1,c1,rfl⟩,a2,m2,c2,rfl⟩:=ξF hnet
 obtain⟨af,mf,cf,rfl,-,-,-,-⟩:=ξC (m:=2) (enc:=fmE) (fun _=>rfl) (by omega) ξJ hf
 obtain⟨ag,mg,cg,rfl,HGN,hcg,hmg,hag⟩:=ξC (m:=6) (enc:=groE) (fun _=>rfl) (by omega) nilG hg
 have HAG:=ξh hag
 have HB1:=ξh ((ξb w.heap.size w).alloc (ξr _) (.cells #[.slice a1 m1 c1,.slice a2 m2 c2] 35))
 clear hnet hf hg hNP hag
 go_enter Tryz.func15,Tryz.ntmps15
 go_wp2_with fail
 generalize w.alloc (.cells #[.slice a1 m1 c1,.slice a2 m2 c2] 35)=w1 at *
 refine(HP.out w1 HB1.out).mono ?_
 rintro e w2 ⟨b2,aw,ms,cs,a,m,c,rfl,hpl⟩
 have HB2:=ξh (HB1.trans (b2.mono HB1.size))
 have HB3:=ξh ((ξb w2.heap.size w2).alloc (ξr _) (.cells #[.slice aw ms cs,.slice a m c] 95))
 have HX3:=ξh (ξn w2 (.cells #[.slice aw ms cs,.slice a m c] 95))
 cases hO:ξR n fs gs with
 | none=>
   have HE:=ξh (ξap hO)
   rw[HE.2]
   clear b2 hpl hO
   go_wp2
   rw[HNP.out]
   exact⟨by unfold planC;rw[HE.2];rfl,HB2.trans (HB3.mono HB2.size)⟩
 | some x=>
   have HE:=ξh (ξaf hO).2.2
   have HG:=ξh (ξau hO).2.2.1
   have HO:=ξh ((hpl x.1 x.2 hO).2.1.rd.belowAll HB3.out)
   have HRES:=ξh (show planC n fs gs=carS (ξai n fs gs) gs gs.length by unfold planC;rw[HE.out];rfl)
   have HB4:=ξh (HB2.trans (HB3.mono HB2.size))
   rw[HE.out]
   clear b2 hpl hO
   generalize ξai n fs gs=B at *
   go_upto_region 2 with fail
   obtain⟨bq,hbq⟩:∃bq,bq=w2.heap.size:=⟨_,rfl⟩
   rw[←hbq] at HX3 ⊢
   clear hbq
   generalize w2.alloc (.cells #[.slice aw ms cs,.slice a m c] 95)=w3 at *
   have HC:=ξh (fun k w' (hb:Below w3.heap.size w3 w')=>ξbh (.slice a m c) B k w' (HO.belowAll hb))
   go_wp2_with fail
   go_loopw [10,11] (fun s10 i wr=>∃k:Nat,k≤mg∧i= .int .i64 k∧s10= .int .i64 (carS B gs k)∧Hid (Below w3.heap.size w3 wr)) (fun _ i _=>mg-(intOf i).toNat)
   case atStart=>exact⟨0,by omega,rfl,rfl,ξb _ _⟩
   case round=>
    obtain⟨k,hk,rfl,rfl,HB⟩:=hrel
    by_cases hlt:k<mg
    · have hltI:(k:Int)<(mg:Int):=by omega
      obtain⟨b,off,rfl,hbs,hcs⟩:=HAG.out (by omega)
      have HBE:=ξh (HB4.trans (HB.mono HB4.size))
      have hcw:=fun(r:Nat) (u:Value) (hu:(groE (gs[k]?.getD nilG))[r]?= some u)=>(HBE.cell (p:=⟨b,off+k*6+r,none⟩) hbs).trans (hcs k hlt r u hu)
      have c2:=hcw 2 _ rfl
      have c4:=hcw 4 _ rfl
      have c5:=hcw 5 _ rfl
      have z1:=blkc (ξA HX3.out HB.out) (j:=1) (u:= .slice a m c) rfl
      obtain⟨⟨d,d1,x,s',e1,e2,e3,e4,e5,e6,e7,e8,HS1⟩,HS2⟩:=car_step HG.out B (k:=k) (by rw[HGN.out];exact hlt)
      have HC2:=ξh (HC.out (k:Int) wr HB.out)
      obtain⟨S,hS⟩:∃S,S=carS B gs k:=⟨_,rfl⟩
      rw[←hS] at e7 e8 HS2 ⊢
      clear hcw hcs hS
      unfold gwA at e1 e2 e5 e6
      generalize gs[k]?.getD nilG=g at *
      generalize B.contains (k:Int)=q at *
      cases q with
      | false=>
        have HE1:=ξh (HS1.out rfl)
        go_wp2_with (go_at_call 59;refine HC2.mono ?_;rintro e w' ⟨rfl,rfl⟩)
        go_quiet (fail)
        rename_i nq
        have HB7:=ξh (ξaJ HB.out nq)
        generalize wr.drewN nq=w7 at *
        go_wp2_with fail
        go_roundw
        case rel=>exact⟨k+1,by omega,by go_num,by rw[HE1.out],HB7.out⟩
        case measure=>simp[intOf];omega
      | true=>
        have HE1:=ξh (HS2.out rfl)
        go_wp2_with (go_at_call 59;refine HC2.mono ?_;rintro e w' ⟨rfl,rfl⟩)
        go_roundw
        case rel=>exact⟨k+1,by omega,by go_num,by rw[HE1.out],HB.out⟩
        case measure=>simp[intOf];omega
    · have hltI:¬(k:Int)<(mg:Int):=by omega
      obtain rfl:k=mg:=by omega
      rw[HGN.out] at HRES
      generalize carS B gs k=S at *
      go_wp2_with fail
      rw[HNP.out]
      exact⟨by rw[HRES.out,HE.out],HB4.trans (HB.mono HB4.size)⟩
end Go.Proofs.YtofcicomhnkocaaGreat
