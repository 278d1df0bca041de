/- Joined: XPdp XPnd XPlb XRmk. -/
import Derived.Test.YtofcicomhnkocaaGreatBp19
import Derived.Test.YtofcicomhnkocaaGreatBp08
import Derived.Test.YtofcicomhnkocaaGreatBp18
import Derived.Test.YtofcicomhnkocaaGreatBp06
import Derived.Test.YtofcicomhnkocaaGreatBp13
set_option linter.unusedVariables false
namespace Go.Proofs.YtofcicomhnkocaaGreat
set_option maxHeartbeats 6400000
open Go.RowKit Go.Sort
set_option maxRecDepth 100000
theorem wlk_nd {n:Net} :∀{xs:List Int} {out:List Int} {t:Int} {nd:List Int},wlk n out t xs=some nd→out.Nodup→nd.Nodup
 | [],out,t,nd,h,ho=>by
   rw[wlk] at h;rw[←Option.some.inj h];exact ho
 | i::is,out,t,nd,h,ho=>by
   rw[wlk] at h
   split at h
   · split at h
     · cases h
     · rename_i hc
       refine wlk_nd h ?_
       rw[List.nodup_append]
       refine⟨ho,by simp,fun a ha b hb e=> ?_⟩
       simp only[List.mem_singleton] at hb
       subst hb;subst e
       exact hc (.inr ha)
   · cases h
theorem rouOk_fb {n:Net} {r:Rou} (hn:netOk n=true) (h:rouOk n r=true):r.fb.length≤8∧ ∀f∈r.fb,0≤f∧f<n.fs.length:=by
 unfold rouOk at h
 obtain⟨nd,hnd⟩:=Option.isSome_iff_exists.1 h
 obtain⟨h1,h2,h3,h4,h5,h6⟩:=rou_facts hn hnd
 have hd:nd.Nodup:=by
  unfold rouN at hnd
  split at hnd
  · exact wlk_nd hnd (by simp)
  · cases hnd
 have hl:nd.length≤n.ns.length:=nodup_len _ hd fun x hx=>by
  obtain⟨k,hk,rfl⟩:=List.getElem_of_mem hx
  have:=h5 k hk
  rw[List.getElem?_eq_getElem hk] at this
  exact this
 have:=netOk_len hn
 refine⟨by omega,fun f hf=> ?_⟩
 obtain⟨k,hk,rfl⟩:=List.getElem_of_mem hf
 have:=h6 k hk
 rw[List.getElem?_eq_getElem hk] at this
 exact this
theorem lgtOk_o {n:Net} {x:Lgt} (hn:netOk n=true) (h:lgtOk n x=true):LgO n.fs.length x∧x.fb.length≤8:=by
 unfold lgtOk at h
 simp only[Bool.and_eq_true] at h
 obtain⟨h1,h2⟩:=rouOk_fb hn h.1.1
 have hb:=blkOk_bd h.2
 exact⟨⟨h2,hb.1,by omega,hb.2.2⟩,h1⟩
theorem erase_lix (n:Net) (ls:List Lgt) (c:Int):ls.eraseP (fun x=>decide (x.id=c))=if 0≤lix ⟨n,ls⟩ c then ls.eraseIdx (lix ⟨n,ls⟩ c).toNat else ls:=by
 unfold lix idxG
 simp only
 have hp:(fun x:Lgt=>decide (x.id=c))=fun x=>x.id==c:=by
  funext x
  by_cases h:x.id=c
  · rw[decide_eq_true h];simp[h]
  · rw[decide_eq_false h];simp[h]
 rw[hp]
 cases hf:ls.findIdx? (fun x=>x.id==c) with
 | none=>
   rw[if_neg (by simp)]
   refine List.eraseP_of_forall_not fun x hx=> ?_
   have:=List.findIdx?_eq_none_iff.1 hf x hx
   simpa using this
 | some k=>
   rw[if_pos (by simp)]
   obtain⟨hk,h1,h2⟩:=List.findIdx?_eq_some_iff_getElem.1 hf
   show _=ls.eraseIdx ((k:Int).toNat)
   rw[Int.toNat_natCast]
   clear hf hp
   induction ls generalizing k with
   | nil=>simp at hk
   | cons a t ih=>
     cases k with
     | zero=>rw[List.eraseP_cons_of_pos (by simpa using h1)];rfl
     | succ k=>
       have h0:=h2 0 (by omega)
       rw[List.eraseP_cons_of_neg (by simpa using h0),List.eraseIdx_cons_succ]
       congr 1
       exact ih k (by simpa using hk) (by simpa using h1) (fun j hj=>by have:=h2 (j+1) (by omega);simpa using this)
theorem delP_lix (n:Net) (gs:List Gro) (t:Int) (ls:List Lgt) (i:Nat):delP gs t ls i=if(gs[i]?.getD nilG).e=t-1∧0≤lix ⟨n,ls⟩ ((i:Int)+1) then ls.eraseIdx (lix ⟨n,ls⟩ ((i:Int)+1)).toNat else ls:=by
 unfold delP
 by_cases h:(gs[i]?.getD nilG).e=t-1
 · rw[if_pos h,erase_lix n]
   simp only[h,true_and]
 · rw[if_neg h,if_neg (fun hh=>h hh.1)]
open Go.RowKit
theorem addP_nd {n:Net} {fs:List Fmt} {gs:List Gro} {t:Int} {i:Nat} {r r2:PRun} (h:addP n fs gs t (some r) i=some r2) (hn:r.bl.Nodup) (hb:∀b∈r.bl,∃j:Nat,j<gs.length∧b=(j:Int)∧began gs t i j):r2.bl.Nodup:=by
 rcases addP_bl h with e | ⟨e,hs⟩
 · rw[e];exact hn
 · rw[e,List.nodup_append]
   refine⟨hn,by simp,fun a ha b hbm e2=> ?_⟩
   simp only[List.mem_singleton] at hbm
   subst hbm;subst e2
   obtain⟨j,hj,ej,hg⟩:=hb _ ha
   have:j=i:=by omega
   subst this
   unfold began at hg
   omega
theorem addA_nd {n:Net} {fs:List Fmt} {gs:List Gro} (hg:GrsP n gs) {t:Int} {r:PRun} (h0:RunOk n gs t 0 r) (hn:r.bl.Nodup):∀{i:Nat} {r2:PRun},i≤gs.length→addA n fs gs t (some r) i=some r2→r2.bl.Nodup
 | 0,r2,_,h=>by
   unfold addA at h
   simp at h
   subst h
   exact hn
 | i+1,r2,hi,h=>by
   rw[addA_step] at h
   cases h1:addA n fs gs t (some r) i with
   | none=>rw[h1] at h;cases h
   | some r1=>
     rw[h1] at h
     exact addP_nd h (addA_nd hg h0 hn (by omega) h1) (addA_ok hg h0 (by omega) h1).1.bls
theorem runP_nd {n:Net} {fs:List Fmt} {gs:List Gro} (hg:GrsP n gs):∀{k:Nat} {ps:List (List Lgt)} {r:PRun},runP n fs gs k=some (ps,r)→r.bl.Nodup
 | 0,ps,r,h=>by
   rw[runP] at h
   cases h
   exact List.nodup_nil
 | k+1,ps,r,h=>by
   rw[runP] at h
   split at h
   · cases h
   · rename_i ps0 r0 h0
     split at h
     · cases h
     · rename_i r2 h2
       cases h
       exact addA_nd hg (runP_all hg h0).1 (show r0.bl.Nodup from runP_nd hg h0) (Nat.le_refl _) h2
theorem srt_ust {xs:List Int} (h:xs.Nodup):srt xs=ust xs:=by
 refine asc_ext ?_ (ust_asc xs) fun x=>by rw[srt_mem,ust_mem]
 have h1:=srt_sorted xs
 have h2:(srt xs).Nodup:=((List.mergeSort_perm xs _).nodup_iff).2 h
 exact(List.Pairwise.and h1 h2).imp fun {a b} hh=>by have:=hh.1;have:=hh.2;omega
def plnD (p:Pln):List Dt:=[flt 1 strE p.n.ns,flt 4 fibE p.n.fs,rws 5 lgtD p.ls]
theorem newPln {w:World} {lo:Nat} {u1 u2 u3:Value} {p:Pln} {fp:List Nat} (h:PlnO w p (.agg #[u1,u2,u3]) fp) (hn:fp.Nodup) (hl:∀k∈fp,lo≤k):Newd w lo [u1,u2,u3] (plnD p):=by
 obtain⟨x1,x2,x3,f1,f2,f3,e,h1,h2,h3,rfl⟩:=h
 simp only[Value.agg.injEq,Array.mk.injEq,List.cons.injEq,and_true] at e
 obtain⟨rfl,rfl,rfl⟩:=e
 refine⟨[f1,f2,f3],rfl,rfl,fun j d u f e1 e2 e3=> ?_,?_,fun k hk=>hl k ?_⟩
 · match j with
   | 0=>cases e1;cases e2;cases e3;exact h1
   | 1=>cases e1;cases e2;cases e3;exact h2
   | 2=>cases e1;cases e2;cases e3;exact h3
   | j+3=>simp[plnD] at e1
 · simpa using hn
 · simpa using hk
theorem PlnO.kept {w w':World} {p:Pln} {v:Value} {fp:List Nat} (h:PlnO w p v fp) (hk:∀k∈fp,w'.heap[k]?= w.heap[k]?):PlnO w' p v fp:=by
 obtain⟨x1,x2,x3,f1,f2,f3,e,h1,h2,h3,rfl⟩:=h
 exact⟨x1,x2,x3,f1,f2,f3,e,h1.kept fun k h=>hk k (List.mem_append_left _ (List.mem_append_left _ h)),h2.kept fun k h=>hk k (List.mem_append_left _ (List.mem_append_right _ h)),h3.kept fun k h=>hk k (List.mem_append_right _ h),rfl⟩
/-! ### A plan in a variable -/
def PlK (w0 w:World) (R:Nat→Prop) (s b v:Value) (p:Pln):Prop:=∀w',Below w0.heap.size w0 w'→(∀k,w0.heap.size≤k→k<w.heap.size→ ¬R k→s.ownBlock≠some k→b.ownBlock≠some k→w'.heap[k]?= w.heap[k]?)→PlnR w' v p
theorem PlK.init {w0 w:World} {R:Nat→Prop} {s b v:Value} {p:Pln} (h:PlnR w0 v p):PlK w0 w R s b v p:=fun _ hb _=>h.behind hb
theorem PlK.rd {w0 w:World} {R:Nat→Prop} {s b v:Value} {p:Pln} (h:PlK w0 w R s b v p) (hb:Below w0.heap.size w0 w):PlnR w v p:=h w hb fun _ _ _ _ _ _=>rfl
theorem PlK.step {w0 w w':World} {R:Nat→Prop} {s b s' b' v:Value} {p:Pln} (h:PlK w0 w R s b v p) (hs:w.heap.size≤w'.heap.size) (hk:∀k,w0.heap.size≤k→k<w.heap.size→ ¬R k→s.ownBlock≠some k→b.ownBlock≠some k→w'.heap[k]?= w.heap[k]?)
 (h1:∀k,s'.ownBlock=some k→s.ownBlock=some k∨w.heap.size≤k) (h2:∀k,b'.ownBlock=some k→b.ownBlock=some k∨w.heap.size≤k):PlK w0 w' R s' b' v p:=fun w2 hb hk2=>
 h w2 hb fun k q1 q2 q3 q4 q5=>(hk2 k q1 (by omega) q3 (fun e=>(h1 k e).elim q4 (fun h=>by omega)) (fun e=>(h2 k e).elim q5 (fun h=>by omega))).trans (hk k q1 q2 q3 q4 q5)
theorem PlK.new {w0 w:World} {R:Nat→Prop} {base B:Nat} {s b u1 u2 u3:Value} {p:Pln} {fp:List Nat} (h:PlG w base B u1 u2 u3 p fp) (hs:NetSm p.n) (h0:w0.heap.size≤base) (hp:∀k,R k→k<base) (h1:∀k,s.ownBlock=some k→k<base) (h2:∀k,b.ownBlock=some k→k<base):PlK w0 w R s b (.agg #[u1,u2,u3]) p:=fun w' _ hk=>by
 obtain⟨fq,ho,-,hl⟩:=h.o
 refine(ho.kept fun k hkq=> ?_).rd hs
 have:=hl k hkq
 exact hk k (by omega) this.2 (fun e=>by have:=hp k e;omega) (fun e=>by have:=h1 k e;omega) (fun e=>by have:=h2 k e;omega)
/-! ### A row under way that keeps clear of some blocks -/
def GrwX (w:World) (base:Nat) (T:TypeId) (size:Nat) (v:Value) (n:Nat) (ds:List Dt) (X:Nat→Prop):Prop:=∃us fs,w.ownsRow base T size v n us∧GrP w base v us fs ds∧ ∀k∈fs.flatten,¬X k
theorem GrwX.grw {w:World} {base size n:Nat} {T:TypeId} {v:Value} {ds:List Dt} {X:Nat→Prop} (h:GrwX w base T size v n ds X):Grw w base T size v n ds:=by
 obtain⟨us,fs,r,g,-⟩:=h
 exact⟨us,fs,r,g.ul,g.fl,g.el,g.nd,g.lo,g.ow⟩
theorem GrwX.start {w:World} {base size g:Nat} (T:TypeId) (X:Nat→Prop) (hb:base≤g) (hg:w.heap[g]?= some (.cells #[] T (0,0))):GrwX w base T size (.slice (some ⟨g,0,none⟩) 0 0) 0 [] X:=
 ⟨[],[],⟨by simp,.inr ⟨g,0,#[],rfl,hb,hg,Nat.le_refl _,by simp[maxLen],by simp,by simp⟩⟩,⟨rfl,rfl,(fun j d u f h=>by simp at h),List.nodup_nil,(fun k hk=>by simp at hk),(fun g _ hk=>by simp at hk)⟩,(fun k hk=>by simp at hk)⟩
theorem GrwX.kept {w w':World} {base size n:Nat} {T:TypeId} {v:Value} {ds:List Dt} {X Y:Nat→Prop} (h:GrwX w base T size v n ds X) (hk:∀k,base≤k→k<w.heap.size→(¬X k∨v.ownBlock=some k)→w'.heap[k]?= w.heap[k]?) (hY:∀k,k<w.heap.size→Y k→X k):GrwX w' base T size v n ds Y:=by
 obtain⟨us,fs,r,g,hx⟩:=h
 have hlt:=g.lt
 refine⟨us,fs,own_kept r fun q hq=>hk q (r.lt q hq).1 (r.lt q hq).2 (.inr hq),⟨g.ul,g.fl,fun j d u f e1 e2 e3=> ?_,g.nd,g.lo,g.ow⟩,fun k hkm hy=>hx k hkm (hY k (hlt k hkm) hy)⟩
 refine(g.el j d u f e1 e2 e3).kept fun k hkf=> ?_
 have hm:k∈fs.flatten:=List.mem_flatten.2 ⟨f,List.mem_of_getElem? e3,hkf⟩
 exact hk k (g.lo k hm) (hlt k hm) (.inl (hx k hm))
theorem wpList_growX {P:Program} {ops:Array Oper} {rest:List Oper} {o:Oper} {a:Act} {Q:Exit→Act→World→Prop} {w w2:World} (hgd:o.guard=none) (s x:Operand) (t e:TypeId)
 (ho:o.op= .call {callee:= .builtin .append,args:=#[s,x],argTypes:=#[t,t]}) (ht:P.underlying t=some (.slice e)) (z:Value) (size bytes:Nat)
 (hinfo:(P.info? e).map (fun i=>(i.zero,i.size,i.bytes))=some (some z,size,bytes)) (hzs:z.cells.size=size) (hsz:0<size) (hby:bytes≤1000)
 (base n:Nat) (v:Value) (ds ds':List Dt) (X:Nat→Prop) (hX:∀k,X k→k<w.heap.size) (hs:a.eval s=v) (hG:GrwX w base e size v n ds X) (hbb:base≤w.heap.size) (hb:Below w.heap.size w w2)
 (news:List Value) (hN:Newd w2 w.heap.size news ds') (hnl:news.length=size) (h1:∀u∈news,u.oneCell'=true) (hx:a.eval x= .slice (some ⟨w2.heap.size,0,none⟩) 1 1) (hn:n≤1000000)
 (h:∀v' w3,GrwX w3 base e size v' (n+1) (ds++ds') X→w2.grownBy w3 v.ownBlock→(∀g,v'.ownBlock=some g→v.ownBlock=some g∨w2.heap.size≤g)→wpList P ops Q rest (a.put o.dst v') w3):
 wpList P ops Q (o::rest) a (w2.alloc (.cells news.toArray e)):=by
 obtain⟨i0,hi,hz0,hz1,hz2⟩:=info_parts hinfo
 obtain⟨us,fs,r1,gp,hxx⟩:=hG
 have hr2:(w2.alloc (.cells news.toArray e)).ownsRow base e size v n us:=(own_kept r1 fun g hg=>hb.block g (r1.lt g hg).2).alloc _
 have hblk:=heap_alloc_new w2 (.cells news.toArray e)
 refine wpList_append_lies _ hgd s x t ho base e i0 z size bytes ht hi hz0 hz1 hz2 hzs hsz v n us hs hr2 ⟨w2.heap.size,0,none⟩ 1 1 news hx (by omega) (fun j u hu=>World.news_of_block hblk j u (by simpa using hu)) h1 (by omega) (by unfold maxLen;omega) ?_ (Nat.le_trans (Nat.le_trans hbb hb.size) (by simp)) _ rfl ?_
 · have:(n+1)*bytes≤1000001*1000:=Nat.mul_le_mul (by omega) hby
   omega
 · intro g cap w3 g1 g2 g3 _
   have hgr:w2.grownBy w3 v.ownBlock:=⟨g2.os,g2.tape,g2.output,Nat.le_trans (by simp) g2.size,fun k hk hne=>by
    rw[g2.block k (by simp;omega) hne];exact heap_alloc_old w2 _ hk⟩
   have hlie:v.ownBlock=some g∨w2.heap.size≤g:=by
    rcases g3 with e | e
    · exact .inl e
    · exact .inr (by rw[e];simp)
   refine h _ w3 ?_ hgr (fun g' hg'=> ?_)
   · obtain⟨fs',k1,k2,k3,k4,k5⟩:=hN
     have hv:=fun g hg=>(r1.lt g hg).2
     have hlt:∀k∈fs.flatten,k<w.heap.size:=gp.lt
     have hlt':∀k∈fs'.flatten,k<w2.heap.size:=Grw.flt k1 k2 k3
     have hkold:∀k∈fs.flatten,w3.heap[k]?= w.heap[k]?:=fun k hk=>by
      rw[hgr.block k (Nat.lt_of_lt_of_le (hlt k hk) hb.size) (fun e=>gp.ow k e.symm hk),hb.block k (hlt k hk)]
     have hknew:∀k∈fs'.flatten,w3.heap[k]?= w2.heap[k]?:=fun k hk=>hgr.block k (hlt' k hk) (fun e=>by have:=hv k e.symm;have:=k5 k hk;omega)
     have h2:=gp.ul
     have h3:=gp.fl
     refine⟨us++news,fs++fs',g1,⟨by simp[h2,k1],by simp[h3,k2],fun j d u f e1 e2 e3=> ?_,?_,fun k hk=> ?_,fun k hk hm=> ?_⟩,fun k hk hxk=> ?_⟩
     · by_cases hj:j<ds.length
       · rw[List.getElem?_append_left (by omega)] at e1 e2 e3
         exact(gp.el j d u f e1 e2 e3).kept fun k hk=>hkold k (List.mem_flatten.2 ⟨f,List.mem_of_getElem? e3,hk⟩)
       · rw[List.getElem?_append_right (by omega)] at e1 e2 e3
         rw[h2] at e2;rw[h3] at e3
         exact(k3 _ d u f e1 e2 e3).kept fun k hk=>hknew k (List.mem_flatten.2 ⟨f,List.mem_of_getElem? e3,hk⟩)
     · rw[List.flatten_append,List.nodup_append]
       exact⟨gp.nd,k4,fun a ha b hb e=>by have:=hlt a ha;have:=k5 b hb;omega⟩
     · rw[List.flatten_append,List.mem_append] at hk
       rcases hk with hk | hk
       · exact gp.lo k hk
       · have:=k5 k hk;omega
     · have:g=k:=by simpa[Value.ownBlock] using hk
       subst this
       rw[List.flatten_append,List.mem_append] at hm
       rcases hlie with e | e
       · rcases hm with hm | hm
         · exact gp.ow g e hm
         · have:=hv g e;have:=k5 g hm;omega
       · rcases hm with hm | hm
         · have:=hlt g hm;have:=hb.size;omega
         · have:=hlt' g hm;omega
     · rw[List.flatten_append,List.mem_append] at hk
       rcases hk with hk | hk
       · exact hxx k hk hxk
       · have:=k5 k hk;have:=hX k hxk;omega
   · have:g=g':=by simpa[Value.ownBlock] using hg'
     rw[←this];exact hlie
/-! ### The state of a planning: the plan in its variable, the plans so far, the blocked demands -/
structure PgS (w0 w:World) (R:Nat→Prop) (s b v:Value) (p:Pln) (m:Nat) (ps:List Pln) (bl:List Int):Prop where
 bel:Below w0.heap.size w0 w
 rsv:∀k,R k→w0.heap.size≤k∧k<w.heap.size
 pl:PlK w0 w R s b v p
 out:GrwX w w0.heap.size 75 3 s m (ps.flatMap plnD) (fun k=>R k∨b.ownBlock=some k)
 blo:Own w w0.heap.size b bl
 aps:∀g,s.ownBlock=some g→ ¬R g∧b.ownBlock≠some g
 apb:∀g,b.ownBlock=some g→ ¬R g
theorem PgS.own {w0 w:World} {R:Nat→Prop} {s b v:Value} {p:Pln} {m:Nat} {ps:List Pln} {bl:List Int} (h:PgS w0 w R s b v p m ps bl):∀k,s.ownBlock=some k→w0.heap.size≤k∧k<w.heap.size:=h.out.grw.own
theorem PgS.step {w0 w w':World} {R:Nat→Prop} {s b v:Value} {p:Pln} {m:Nat} {ps:List Pln} {bl:List Int} (h:PgS w0 w R s b v p m ps bl) (hb:Below w0.heap.size w0 w') (hs:w.heap.size≤w'.heap.size) (hk:∀k,k<w.heap.size→ ¬R k→w'.heap[k]?= w.heap[k]?):PgS w0 w' R s b v p m ps bl:=
 ⟨hb,fun k hr=>⟨(h.rsv k hr).1,by have:=(h.rsv k hr).2;omega⟩,h.pl.step hs (fun k _ q1 q2 _ _=>hk k q1 q2) (fun _ h=> .inl h) (fun _ h=> .inl h),
  h.out.kept (fun k _ q1 q2=>hk k q1 (q2.elim (fun e hr=>e (.inl hr)) (fun e=>(h.aps k e).1))) (fun _ _ h=>h),h.blo.kept fun k hk2=>hk k (h.blo.lt k hk2).2 (h.apb k hk2),h.aps,h.apb⟩
theorem PgS.below {w0 w w':World} {R:Nat→Prop} {s b v:Value} {p:Pln} {m:Nat} {ps:List Pln} {bl:List Int} (h:PgS w0 w R s b v p m ps bl) (hb:Below w.heap.size w w'):PgS w0 w' R s b v p m ps bl:=
 h.step (h.bel.trans (hb.mono h.bel.size)) hb.size fun k hk _=>hb.block k hk
theorem PgS.put {w0 w w1 w':World} {R:Nat→Prop} {s b v u1 u2 u3:Value} {p p':Pln} {m B:Nat} {ps:List Pln} {bl:List Int} {fp:List Nat} (h:PgS w0 w R s b v p m ps bl) (hb1:Below w.heap.size w w1) (hG:PlG w1 w.heap.size B u1 u2 u3 p' fp) (hsm:NetSm p'.n) (hb:Below w0.heap.size w0 w') (hs:w1.heap.size=w'.heap.size) (hk:∀k,¬R k→w'.heap[k]?= w1.heap[k]?):PgS w0 w' R s b (.agg #[u1,u2,u3]) p' m ps bl:=by
 have h1:=h.below hb1
 have h2:=h1.step hb (Nat.le_of_eq hs) fun k _ hr=>hk k hr
 refine⟨h2.bel,h2.rsv,?_,h2.out,h2.blo,h2.aps,h2.apb⟩
 have hp:PlK w0 w1 R s b (.agg #[u1,u2,u3]) p':=PlK.new hG hsm h.bel.size (fun k hr=>(h.rsv k hr).2) (fun k hk=>(h.own k hk).2) (fun k hk=>(h.blo.lt k hk).2)
 exact hp.step (Nat.le_of_eq hs) (fun k _ _ q2 _ _=>hk k q2) (fun _ h=> .inl h) (fun _ h=> .inl h)
theorem PgS.push {w0 w w':World} {R:Nat→Prop} {s b b' v:Value} {p:Pln} {m:Nat} {ps:List Pln} {bl bl':List Int} (h:PgS w0 w R s b v p m ps bl) (ho:Own w' w0.heap.size b' bl') (hg:w.grownBy w' b.ownBlock) (hl:∀g,b'.ownBlock=some g→b.ownBlock=some g∨w.heap.size≤g):PgS w0 w' R s b' v p m ps bl':=by
 have hb:Below w0.heap.size w0 w':=h.bel.grown hg h.bel.size fun q hq=>(h.blo.lt q hq).1
 refine⟨hb,fun k hr=>⟨(h.rsv k hr).1,by have:=(h.rsv k hr).2;have:=hg.size;omega⟩,h.pl.step hg.size (fun k _ q1 _ _ q2=>hg.block k q1 fun e=>q2 e.symm) (fun _ h=> .inl h) hl,h.out.kept (fun k _ q1 q2=>hg.block k q1 fun e=> ?_) (fun k hk hy=>hy.imp id fun e=>(hl k e).elim id fun h=>by omega),ho,fun g e=>⟨(h.aps g e).1,fun e2=> ?_⟩,fun g e hr=> ?_⟩
 · rcases q2 with q2 | q2
   · exact q2 (.inr e.symm)
   · exact(h.aps k q2).2 e.symm
 · rcases hl g e2 with e2 | e2
   · exact(h.aps g e).2 e2
   · have:=(h.own g e).2;omega
 · rcases hl g e with e2 | e2
   · exact h.apb g e2 hr
   · have:=(h.rsv g hr).2;omega
theorem PgS.grow {w0 w w2 w':World} {R:Nat→Prop} {s s' b v:Value} {p q:Pln} {m:Nat} {ps:List Pln} {bl:List Int} (h:PgS w0 w R s b v p m ps bl) (hb:Below w.heap.size w w2) (ho:GrwX w' w0.heap.size 75 3 s' (m+1) (ps.flatMap plnD++plnD q) (fun k=>R k∨b.ownBlock=some k)) (hg:w2.grownBy w' s.ownBlock) (hl:∀g,s'.ownBlock=some g→s.ownBlock=some g∨w2.heap.size≤g):PgS w0 w' R s' b v p (m+1) (ps++[q]) bl:=by
 have h2:=h.below hb
 have hbb:Below w0.heap.size w0 w':=h2.bel.grown hg h2.bel.size fun q hq=>(h2.own q hq).1
 refine⟨hbb,fun k hr=>⟨(h2.rsv k hr).1,by have:=(h2.rsv k hr).2;have:=hg.size;omega⟩,h2.pl.step hg.size (fun k _ q1 _ q2 _=>hg.block k q1 fun e=>q2 e.symm) hl (fun _ h=> .inl h),?_,h2.blo.kept fun k hk=>hg.block k (h2.blo.lt k hk).2 fun e=>(h2.aps k e.symm).2 hk,fun g e=>⟨fun hr=> ?_,fun e2=> ?_⟩,h2.apb⟩
 · rw[List.flatMap_append];simpa using ho
 · rcases hl g e with e2 | e2
   · exact(h2.aps g e2).1 hr
   · have:=(h2.rsv g hr).2;omega
 · rcases hl g e with e3 | e3
   · exact(h2.aps g e3).2 e2
   · have:=(h2.blo.lt g e2).2;omega
def PgB (w0 w:World) (R:Nat→Prop) (bp:Nat) (s b:Value) (p:Pln) (m:Nat) (ps:List Pln) (bl:List Int):Prop:=R bp∧ ∃a1 m1 c1 a2 m2 c2 a3 m3 c3,w.heap[bp]?= some (.cells #[.slice a1 m1 c1,.slice a2 m2 c2,.slice a3 m3 c3] 75 (0,0))∧PgS w0 w R s b (.agg #[.slice a1 m1 c1,.slice a2 m2 c2,.slice a3 m3 c3]) p m ps bl
theorem PgB.below {w0 w w':World} {R:Nat→Prop} {bp m:Nat} {s b:Value} {p:Pln} {ps:List Pln} {bl:List Int} (h:PgB w0 w R bp s b p m ps bl) (hb:Below w.heap.size w w'):PgB w0 w' R bp s b p m ps bl:=by
 obtain⟨h0,a1,m1,c1,a2,m2,c2,a3,m3,c3,h1,h2⟩:=h
 exact⟨h0,a1,m1,c1,a2,m2,c2,a3,m3,c3,kept_o' h1 hb,h2.below hb⟩
theorem PgB.bel {w0 w:World} {R:Nat→Prop} {bp m:Nat} {s b:Value} {p:Pln} {ps:List Pln} {bl:List Int} (h:PgB w0 w R bp s b p m ps bl):Below w0.heap.size w0 w:=by
 obtain⟨h0,a1,m1,c1,a2,m2,c2,a3,m3,c3,h1,h2⟩:=h
 exact h2.bel
theorem PgB.put {w0 w w1:World} {R:Nat→Prop} {bp m B n1 d1 n2 d2 n3 d3:Nat} {s b:Value} {e1 e2 e3:Option Addr} {p p':Pln} {ps:List Pln} {bl:List Int} {fp:List Nat} (h:PgB w0 w R bp s b p m ps bl) (hb1:Below w.heap.size w w1) (hG:PlG w1 w.heap.size B (.slice e1 n1 d1) (.slice e2 n2 d2) (.slice e3 n3 d3) p' fp) (hsm:NetSm p'.n):
 PgB w0 (((w1.setCell ⟨bp,0,none⟩ (.slice e1 n1 d1)).setCell ⟨bp,1,none⟩ (.slice e2 n2 d2)).setCell ⟨bp,2,none⟩ (.slice e3 n3 d3)) R bp s b p' m ps bl:=by
 obtain⟨h0,a1,m1,c1,a2,m2,c2,a3,m3,c3,h1,h2⟩:=h
 obtain⟨q1,q2,q3,q4⟩:=set3_facts (.slice e1 n1 d1) (.slice e2 n2 d2) (.slice e3 n3 d3) (kept_o' h1 hb1)
 exact⟨h0,e1,n1,d1,e2,n2,d2,e3,n3,d3,q1,h2.put hb1 hG hsm (q4 _ _ (h2.rsv _ h0).1 (h2.bel.trans (hb1.mono h2.bel.size))) q3.symm fun k hk=>q2 k fun e=>hk (e▸h0)⟩
theorem PgB.push {w0 w w':World} {R:Nat→Prop} {bp m:Nat} {s b b':Value} {p:Pln} {ps:List Pln} {bl bl':List Int} (h:PgB w0 w R bp s b p m ps bl) (ho:Own w' w0.heap.size b' bl') (hg:w.grownBy w' b.ownBlock) (hl:∀g,b'.ownBlock=some g→b.ownBlock=some g∨w.heap.size≤g):PgB w0 w' R bp s b' p m ps bl':=by
 obtain⟨h0,a1,m1,c1,a2,m2,c2,a3,m3,c3,h1,h2⟩:=h
 exact⟨h0,a1,m1,c1,a2,m2,c2,a3,m3,c3,(hg.block bp (h2.rsv _ h0).2 fun e=>h2.apb bp e.symm h0).trans h1,h2.push ho hg hl⟩
theorem PgB.grow {w0 w w2 w':World} {R:Nat→Prop} {bp m:Nat} {s s' b:Value} {p q:Pln} {ps:List Pln} {bl:List Int} (h:PgB w0 w R bp s b p m ps bl) (hb:Below w.heap.size w w2) (ho:GrwX w' w0.heap.size 75 3 s' (m+1) (ps.flatMap plnD++plnD q) (fun k=>R k∨b.ownBlock=some k)) (hg:w2.grownBy w' s.ownBlock) (hl:∀g,s'.ownBlock=some g→s.ownBlock=some g∨w2.heap.size≤g):PgB w0 w' R bp s' b p (m+1) (ps++[q]) bl:=by
 obtain⟨h0,a1,m1,c1,a2,m2,c2,a3,m3,c3,h1,h2⟩:=h
 exact⟨h0,a1,m1,c1,a2,m2,c2,a3,m3,c3,(hg.block bp (Nat.lt_of_lt_of_le (h2.rsv _ h0).2 hb.size) fun e=>(h2.aps bp e.symm).1 h0).trans (kept_o' h1 hb),h2.grow hb ho hg hl⟩
theorem PgB.start {w0 w3:World} {a1 a2:Option Addr} {m1 c1 m2 c2:Nat} {n:Net} (hb:Below w0.heap.size w0 w3) (hp:PlnR w0 (.agg #[.slice a1 m1 c1,.slice a2 m2 c2,.slice none 0 0]) ⟨n,[]⟩):
 PgB w0 (((w3.alloc (.cells #[] 75)).alloc (.cells #[] 3)).alloc (.cells #[.slice a1 m1 c1,.slice a2 m2 c2,.slice none 0 0] 75)) (fun k=>k=w3.heap.size+1+1) (w3.heap.size+1+1) (.slice (some ⟨w3.heap.size,0,none⟩) 0 0) (.slice (some ⟨w3.heap.size+1,0,none⟩) 0 0) ⟨n,[]⟩ 0 [] []:=by
 obtain⟨q0,q1,q2,q3,q4⟩:=box3_facts w3 (.cells #[] 75) (.cells #[] 3) (.cells #[.slice a1 m1 c1,.slice a2 m2 c2,.slice none 0 0] 75)
 have hz:=hb.size
 refine⟨rfl,_,_,_,_,_,_,_,_,_,q3,hb.trans (q0.mono hz),fun k hk=>by subst hk;omega,PlK.init hp,GrwX.start _ _ (by omega) q1,.inr ⟨w3.heap.size+1,0,0,#[],rfl,by omega,⟨_,q2⟩,Nat.le_refl _,by simp[maxLen],by simp,by simp[ints]⟩,fun g hg=> ?_,fun g hg=> ?_⟩
 · have:w3.heap.size=g:=Option.some.inj hg
   subst this
   exact⟨(show¬(w3.heap.size=w3.heap.size+1+1) by omega),fun e=>(by have:w3.heap.size+1=w3.heap.size:=Option.some.inj e;omega)⟩
 · have:w3.heap.size+1=g:=Option.some.inj hg
   subst this
   show¬(w3.heap.size+1=w3.heap.size+1+1)
   omega
theorem alongN_step {ls:List Lgt} {fb:List Int} {j:Nat} (hj:j<fb.length):alongN ls (fb.take (j+1))=alongN ls (fb.take j) ||| usedN ls (fb[j]?.getD 0):=by
 unfold alongN
 rw[List.take_add_one,List.foldl_append,List.getElem?_eq_getElem hj];rfl
theorem alongN_lt {ls:List Lgt} (h:∀i:Nat,usedN ls (i:Int)<16777216):∀(fb:List Int) (m:Nat),(∀f∈fb,0≤f)→m<16777216→fb.foldl (fun m i=>m ||| usedN ls i) m<16777216
 | [],m,_,hm=>hm
 | f::fb,m,h0,hm=>by
   rw[List.foldl_cons]
   refine alongN_lt h fb _ (fun x hx=>h0 x (List.mem_cons_of_mem _ hx)) (or_24 hm ?_)
   have:=h f.toNat
   rwa [Int.toNat_of_nonneg (h0 f (List.mem_cons_self ..))] at this
theorem usedN_lt {ls:List Lgt} {nf:Nat} (h:∀x∈ls,LgO nf x) (i:Int):usedN ls i<16777216:=by
 have key:∀(ls:List Lgt) (m:Nat),(∀x∈ls,LgO nf x)→m<16777216→ls.foldl (fun m x=>if x.fb.contains i then m ||| mskN x.fi.toNat x.ct.toNat else m) m<16777216:=by
  intro ls
  induction ls with
  | nil=>intro m _ hm;exact hm
  | cons x t ih=>
    intro m h hm
    rw[List.foldl_cons]
    refine ih _ (fun y hy=>h y (List.mem_cons_of_mem _ hy)) ?_
    split
    · exact or_24 hm (h x (List.mem_cons_self ..)).mk
    · exact hm
 exact key ls 0 h (by decide)
theorem routeMask_any (v fv:Value) (p:Pln) (st:Int) (fb:List Int) (w:World) (h:PlnR w v p) (hr:Rd w fv fb) (hfb:∀f∈fb,0≤f∧f<p.n.fs.length) (hn2:p.n.fs.length≤1048576) (hl:p.ls.length≤1000) (hlo:∀x∈p.ls,LgO p.n.fs.length x):
 Calls Tryz.prog 159 #[v,.agg #[.int .i64 st,fv]] w fun e w'=>e= .returned (.int .i64 (alongN p.ls fb:Nat))∧Below w.heap.size w w':=by
 have HFM:=Lib.hid (fun w' (hb:Below w.heap.size w w')=>fiberMasks_any v p w' (h.behind hb) hn2 hl hlo)
 obtain⟨u1,u2,u3,rfl,r1,r2,r3,hsm⟩:=h
 have hnet:NetR w (.agg #[u1,u2]) p.n:=⟨u1,u2,rfl,r1,r2,hsm⟩
 obtain⟨⟨a1,m1,c1,rfl⟩,a2,m2,c2,rfl⟩:=slice_of_net hnet
 obtain⟨a3,m3,c3,rfl,HN3,hc3,hm3,ha3⟩:=lgt_opn r3
 obtain⟨ar,cr,nr,HNR,rfl,-,hnr,hcr⟩:=hr.opn
 have HCR:=Lib.hid hcr
 have HUN:=Lib.hid (fun i (hi:i<p.n.fs.length)=>@orAll_get p.ls p.n.fs.length i hi (fun x hx f hf=>((hlo x hx).1 f hf).1))
 have HUL:=Lib.hid (fun i=>usedN_lt hlo i)
 have HAS:=Lib.hid (fun j (hj:j<fb.length)=>@alongN_step p.ls fb j hj)
 have HAL:=Lib.hid (fun j=>show alongN p.ls (fb.take j)<16777216 from alongN_lt (fun i=>usedN_lt hlo i) _ 0 (fun f hf=>(hfb f (List.mem_of_mem_take hf)).1) (by decide))
 have HFB:=Lib.hid (fun j (hj:j<nr)=>show 0≤(fb[j]?.getD 0)∧(fb[j]?.getD 0)<p.n.fs.length from by
  have h1:j<fb.length:=by rw[HNR.out];exact hj
  rw[List.getElem?_eq_getElem h1];exact hfb _ (List.getElem_mem h1))
 have HLO:=Lib.hid (show(orAll p.ls p.n.fs.length).length=p.n.fs.length from by unfold orAll;rw[orLs_len];simp)
 have HTA:=Lib.hid (show alongN p.ls (fb.take nr)=alongN p.ls fb from by rw[List.take_of_length_le (Nat.le_of_eq HNR.out)])
 rw[HNR.out] at HAS
 have HB2:=Lib.hid (box2_facts w (.cells #[.slice a1 m1 c1,.slice a2 m2 c2,.slice a3 m3 c3] 75) (.cells #[.int .i64 st,.slice ar nr cr] 82))
 generalize hnf:p.n.fs.length=nf at *
 clear r1 r2 r3 hsm hnet ha3 hl hn2 hlo hfb hr hcr hnf
 generalize orAll p.ls nf=OA at *
 go_enter Tryz.func159,Tryz.ntmps159
 go_wp2_with fail
 generalize (w.alloc (.cells #[.slice a1 m1 c1,.slice a2 m2 c2,.slice a3 m3 c3] 75)).alloc (.cells #[.int .i64 st,.slice ar nr cr] 82)=w2 at *
 refine(HFM.out w2 HB2.out.1).mono ?_
 rintro e w3 ⟨v3,rfl,o3,b3⟩
 obtain⟨b2,g0,g1,hz2⟩:=HB2.out
 have y1:=blkc (kept_o' g1 b3) (j:=1) (u:= .slice ar nr cr) rfl
 have HB3:=Lib.hid (b2.trans (b3.mono b2.size))
 obtain⟨ao,co,no,HNO,rfl,-,hno,hco⟩:=o3.rd.opn
 have hnoe:no=nf:=by rw[←HNO.out,nats_len,HLO.out]
 subst hnoe
 have HCO:=Lib.hid hco
 clear o3 b3 b2 g0 g1 hz2 hco HFM HB2 HNO
 go_wp2_with fail
 clear y1
 go_loopw [6,14] (fun s6 i wr=>∃j:Nat,j≤nr∧i= .int .i64 j∧s6= .int .i64 (alongN p.ls (fb.take j):Nat)∧wr=w3) (fun _ i _=>nr-(intOf i).toNat)
 case atStart=>exact⟨0,Nat.zero_le _,rfl,rfl,rfl⟩
 case round=>
  obtain⟨j,hj,rfl,rfl,rfl⟩:=hrel
  by_cases hlt:j<nr
  · have hltI:(j:Int)<(nr:Int):=by omega
    obtain⟨bf,of,rfl,hbf,hcf⟩:=HCR.out (by omega)
    have ef:=(HB3.out.cell (p:=⟨bf,of+j,none⟩) hbf).trans (hcf j hlt)
    have hf:=HFB.out j hlt
    have HSJ:=Lib.hid (HAS.out j hlt)
    have HLJ:=Lib.hid (HAL.out j)
    clear hcf hbf
    generalize fb[j]?.getD 0=f at *
    obtain⟨fn,rfl⟩:∃fn:Nat,f=(fn:Int):=⟨f.toNat,by omega⟩
    have hfI:(fn:Int)<(no:Int):=hf.2
    have hfn:fn<no:=by omega
    obtain⟨bo,oo,rfl,hbo,hco⟩:=HCO.out (by omega)
    have eo:=hco fn hfn
    rw[nats_at,HUN.out fn hfn] at eo
    have hor:=bits_or HLJ.out (HUL.out (fn:Int))
    clear hco hbo hf
    generalize alongN p.ls (fb.take j)=A at *
    generalize usedN p.ls (fn:Int)=U at *
    go_wp2
    go_roundw
    case rel=>exact⟨j+1,hlt,by go_num,by rw[HSJ.out],trivial⟩
    case measure=>simp[intOf];omega
  · have hltI:¬(j:Int)<(nr:Int):=by omega
    obtain rfl:nr=j:=by omega
    rw[HTA.out]
    go_wp2
    go_ret
    exact⟨rfl,HB3.out⟩
end Go.Proofs.YtofcicomhnkocaaGreat
