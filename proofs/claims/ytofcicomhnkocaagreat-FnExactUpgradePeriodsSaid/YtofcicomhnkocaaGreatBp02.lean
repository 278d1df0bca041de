/- Joined: XDpP XRwt XFlt XNamF XFib XCmp XCpf. -/
import Derived.Test.YtofcicomhnkocaaGreatBp01
import Derived.Deep.AppendLies
import Derived.Deep.Slices
import Derived.Lib.SmallJoins
set_option linter.unusedVariables false
namespace Go.Proofs.YtofcicomhnkocaaGreat
set_option maxHeartbeats 1600000
open Go.RowKit
def Ofr (w:World) (base:Nat) (d:Dt) (v:Value):Prop:=∃fp,Odt w d v fp∧fp.Nodup∧ ∀k∈fp,base≤k
theorem Ofr.rd {w:World} {base:Nat} {d:Dt} {v:Value} (h:Ofr w base d v):Rdt w d v:=by obtain⟨fp,h,_⟩:=h;exact h.rd
theorem Ofr.below {w w':World} {base:Nat} {d:Dt} {v:Value} (h:Ofr w base d v) (hb:Below w.heap.size w w'):Ofr w' base d v:=by
 obtain⟨fp,h1,h2,h3⟩:=h;exact⟨fp,h1.behind hb,h2,h3⟩
theorem Own.ofr {w:World} {base:Nat} {v:Value} {xs:List Int} (h:Own w base v xs):Ofr w base (inD xs) v:=by
 obtain⟨fp,h1,h2,h3⟩:=h.tree
 exact⟨fp,h1,h2,fun k hk=>(h.lt k (h3 k hk)).1⟩
theorem Ofr.nil (w:World) (base size:Nat):Ofr w base (.rows size []) (.slice none 0 0):=⟨[],.nil size,List.nodup_nil,fun k hk=>by cases hk⟩
theorem nodup_flatten {fs:List (List Nat)} :fs.flatten.Nodup↔(∀f∈fs,f.Nodup)∧List.Pairwise (fun a b=>∀x∈a,∀y∈b,x≠y) fs:=by
 unfold List.Nodup;exact List.pairwise_flatten
theorem mem_flat_get {fs:List (List Nat)} {k:Nat} (h:k∈fs.flatten):∃j,∃hj:j<fs.length,k∈fs[j]:=by
 obtain⟨f,h1,h2⟩:=List.mem_flatten.1 h
 obtain⟨j,hj,e⟩:=List.mem_iff_getElem.1 h1
 exact⟨j,hj,by rw[e];exact h2⟩
theorem flat_put {fs:List (List Nat)} {f:List Nat} {lo j:Nat} (hn:fs.flatten.Nodup) (hlt:∀k∈fs.flatten,k<lo) (hf:f.Nodup) (hge:∀k∈f,lo≤k):
 (fs.set j f).flatten.Nodup∧ ∀k∈(fs.set j f).flatten,k∈fs.flatten∨k∈f:=by
 have hmem:∀k∈(fs.set j f).flatten,k∈fs.flatten∨k∈f:=fun k hk=>by
  obtain⟨i,hi,h2⟩:=mem_flat_get hk
  rw[List.length_set] at hi
  by_cases e:j=i
  · subst e;rw[List.getElem_set_self] at h2;exact .inr h2
  · rw[List.getElem_set_ne e] at h2;exact .inl (List.mem_flatten.2 ⟨_,List.getElem_mem hi,h2⟩)
 refine⟨?_,hmem⟩
 obtain⟨h1,h2⟩:=nodup_flatten.1 hn
 rw[List.pairwise_iff_getElem] at h2
 have hlt':∀i (hi:i<fs.length),∀k∈fs[i],k<lo:=fun i hi k hk=>hlt k (List.mem_flatten.2 ⟨_,List.getElem_mem hi,hk⟩)
 refine nodup_flatten.2 ⟨fun g hg=> ?_,?_⟩
 · obtain⟨i,hi,rfl⟩:=List.mem_iff_getElem.1 hg
   rw[List.length_set] at hi
   by_cases e:j=i
   · subst e;rw[List.getElem_set_self];exact hf
   · rw[List.getElem_set_ne e];exact h1 _ (List.getElem_mem hi)
 · rw[List.pairwise_iff_getElem]
   intro a b ha hb hab x hx y hy
   rw[List.length_set] at ha hb
   by_cases ea:j=a
   · subst ea
     rw[List.getElem_set_self] at hx
     rw[List.getElem_set_ne (by omega)] at hy
     have:=hge x hx;have:=hlt' b hb y hy;omega
   · rw[List.getElem_set_ne ea] at hx
     by_cases eb:j=b
     · subst eb
       rw[List.getElem_set_self] at hy
       have:=hge y hy;have:=hlt' a ha x hx;omega
     · rw[List.getElem_set_ne eb] at hy
       exact h2 a b ha hb hab x hx y hy
theorem Ofr.put {wr w1:World} {base size j:Nat} {ds:List Dt} {d:Dt} {v u:Value} (h:Ofr wr base (.rows size ds) v) (hbb:base≤wr.heap.size) (hb:Below wr.heap.size wr w1) (hu:Ofr w1 wr.heap.size d u) (hj:j<ds.length):
 ∃g off n cap,v= .slice (some ⟨g,off,none⟩) n cap∧base≤g∧g<wr.heap.size∧(∃u0,w1.cell? ⟨g,off+j,none⟩=some u0)∧w1.frozen? ⟨g,off+j,none⟩=false∧
  Ofr (w1.setCell ⟨g,off+j,none⟩ u) base (.rows size (ds.set j d)) v:=by
 obtain⟨fp,h1,h2,h3⟩:=h
 obtain⟨f,k1,k2,k3⟩:=hu
 have hlt:=h1.lt
 have h1':=h1.behind hb
 clear h1
 cases h1' with
 | nil size=>simp at hj
 | @mk size n g off cap ds us fs cur T hl hus hf hn hc hg hcs ht hd=>
   obtain⟨hgn,hfn⟩:=List.nodup_cons.1 h2
   have hg1:g<wr.heap.size:=hlt g (by simp)
   obtain⟨q1,q2⟩:=flat_put (j:=j) hfn (fun k hk=>hlt k (List.mem_cons_of_mem _ hk)) k2 k3
   have hgq:g ∉ (fs.set j f).flatten:=fun e=>by
    rcases q2 g e with e | e
    · exact hgn e
    · have:=k3 g e;omega
   have hju:j<us.length:=by omega
   refine⟨g,off,n,cap,rfl,h3 g (by simp),hg1,⟨_,row_cell hg ht (List.getElem?_eq_getElem hju) (by omega)⟩,frozen_of_row _ _ _ _ _ hg,g::(fs.set j f).flatten,?_,List.nodup_cons.2 ⟨hgq,q1⟩,fun k hk=> ?_⟩
   · have hg':=heap_setCell_same w1 g (off+j) cur T u hg
     refine .mk (us:=us.set j u) (by rw[List.length_set];exact hl) (by rw[List.length_set,List.length_set];exact hus) (by rw[List.length_set,List.length_set];exact hf) hn hc hg' (by simpa using hcs) ?_ (fun i d2 u2 f2 e1 e2 e3=> ?_)
     · rw[Array.toList_setIfInBounds,List.drop_set,if_neg (by omega),Nat.add_sub_cancel_left,List.take_set,ht]
     · have hset:∀k,k≠g→(w1.setCell ⟨g,off+j,none⟩ u).heap[k]?= w1.heap[k]?:=fun k hk=>heap_setCell_other w1 ⟨g,off+j,none⟩ k u hk
       by_cases e:j=i
       · subst e
         rw[List.getElem?_set_self hj] at e1
         rw[List.getElem?_set_self hju] at e2
         rw[List.getElem?_set_self (by omega)] at e3
         cases e1;cases e2;cases e3
         exact k1.kept fun k hk=>hset k (by have:=k3 k hk;omega)
       · rw[List.getElem?_set_ne e] at e1 e2 e3
         exact(hd i d2 u2 f2 e1 e2 e3).kept fun k hk=>hset k (fun e=>hgn (by rw[←e];exact List.mem_flatten.2 ⟨f2,List.mem_of_getElem? e3,hk⟩))
   · rcases List.mem_cons.1 hk with rfl | hk
     · exact h3 k (by simp)
     · rcases q2 k hk with e | e
       · exact h3 k (List.mem_cons_of_mem _ e)
       · have:=k3 k e;omega
def Grw (w:World) (base:Nat) (T:TypeId) (size:Nat) (v:Value) (n:Nat) (ds:List Dt):Prop:=
 ∃(us:List Value) (fs:List (List Nat)),w.ownsRow base T size v n us∧us.length=ds.length∧fs.length=ds.length∧(∀(j:Nat) (d:Dt) (u:Value) (f:List Nat),ds[j]?= some d→us[j]?= some u→fs[j]?= some f→Odt w d u f)∧fs.flatten.Nodup∧(∀k∈fs.flatten,base≤k)∧ ∀g,v.ownBlock=some g→g ∉ fs.flatten
theorem Grw.flt {w:World} {ds:List Dt} {us:List Value} {fs:List (List Nat)} (h1:us.length=ds.length) (h2:fs.length=ds.length) (h:∀(j:Nat) (d:Dt) (u:Value) (f:List Nat),ds[j]?= some d→us[j]?= some u→fs[j]?= some f→Odt w d u f):∀k∈fs.flatten,k<w.heap.size:=fun k hk=>by
 obtain⟨j,hj,hk⟩:=mem_flat_get hk
 exact(h j _ _ _ (List.getElem?_eq_getElem (by omega)) (List.getElem?_eq_getElem (by omega)) (List.getElem?_eq_getElem hj)).lt k hk
theorem Grw.own {w:World} {base size n:Nat} {T:TypeId} {v:Value} {ds:List Dt} (h:Grw w base T size v n ds):∀k,v.ownBlock=some k→base≤k∧k<w.heap.size:=by
 obtain⟨us,fs,h,_⟩:=h;exact h.lt
theorem Grw.form {w:World} {base size n:Nat} {T:TypeId} {v:Value} {ds:List Dt} (h:Grw w base T size v n ds):ds.length=n*size∧ ∃a cap,v= .slice a n cap:=by
 obtain⟨us,fs,h,h1,_⟩:=h
 refine⟨by rw[←h1];exact h.1,?_⟩
 rcases h.2 with ⟨rfl,rfl⟩ | ⟨g,cap,cur,rfl,_⟩
 · exact⟨none,0,rfl⟩
 · exact⟨_,cap,rfl⟩
theorem Grw.below {w w':World} {base size n:Nat} {T:TypeId} {v:Value} {ds:List Dt} (h:Grw w base T size v n ds) (hb:Below w.heap.size w w'):Grw w' base T size v n ds:=by
 obtain⟨us,fs,h1,h2,h3,h4,h5,h6,h7⟩:=h
 refine⟨us,fs,⟨h1.1,?_⟩,h2,h3,fun j d u f e1 e2 e3=>(h4 j d u f e1 e2 e3).behind hb,h5,h6,h7⟩
 rcases h1.2 with h | ⟨g,cap,cur,rfl,q1,q2,q3⟩
 · exact .inl h
 · exact .inr ⟨g,cap,cur,rfl,q1,by rw[hb.block g (Array.getElem?_eq_some_iff.1 q2).1];exact q2,q3⟩
theorem Grw.ofr {w:World} {base size n:Nat} {T:TypeId} {v:Value} {ds:List Dt} (h:Grw w base T size v n ds):Ofr w base (.rows size ds) v:=by
 obtain⟨us,fs,h1,h2,h3,h4,h5,h6,h7⟩:=h
 rcases h1.2 with ⟨rfl,rfl⟩ | ⟨g,cap,cur,rfl,q1,q2,q3,q4,q5,q6⟩
 · have:ds=[]:=List.eq_nil_of_length_eq_zero (by have:=h1.1;omega)
   subst this
   exact Ofr.nil _ _ _
 · have hgn:g ∉ fs.flatten:=h7 g rfl
   refine⟨g::fs.flatten,.mk (us:=us) (by rw[←h2];exact h1.1) h2 h3 q3 q4 q2 (by omega) (by rw[List.drop_zero];exact q6) h4,List.nodup_cons.2 ⟨hgn,h5⟩,fun k hk=> ?_⟩
   rcases List.mem_cons.1 hk with rfl | hk
   · exact q1
   · exact h6 k hk
def Newd (w:World) (lo:Nat) (news:List Value) (ds:List Dt):Prop:=∃fs:List (List Nat),news.length=ds.length∧fs.length=ds.length∧(∀(j:Nat) (d:Dt) (u:Value) (f:List Nat),ds[j]?= some d→news[j]?= some u→fs[j]?= some f→Odt w d u f)∧fs.flatten.Nodup∧ ∀k∈fs.flatten,lo≤k
theorem Newd.one {w:World} {lo:Nat} {d:Dt} {u:Value} (h:Ofr w lo d u):Newd w lo [u] [d]:=by
 obtain⟨fp,h1,h2,h3⟩:=h
 refine⟨[fp],rfl,rfl,fun j d' u' f' e1 e2 e3=> ?_,by simpa using h2,by simpa using h3⟩
 match j with
 | 0=>simp at e1 e2 e3;subst e1;subst e2;subst e3;exact h1
 | j+1=>simp at e1
theorem Grw.pushed {w w2 w3:World} {base size n g cap:Nat} {T:TypeId} {v:Value} {ds ds':List Dt} {news us:List Value} {fs:List (List Nat)}
 (h2:us.length=ds.length) (h3:fs.length=ds.length) (h4:∀(j:Nat) (d:Dt) (u:Value) (f:List Nat),ds[j]?= some d→us[j]?= some u→fs[j]?= some f→Odt w d u f) (h5:fs.flatten.Nodup) (h6:∀k∈fs.flatten,base≤k) (h7:∀g,v.ownBlock=some g→g ∉ fs.flatten) (hv:∀g,v.ownBlock=some g→g<w.heap.size) (hbb:base≤w.heap.size)
 (hb:Below w.heap.size w w2) (hN:Newd w2 w.heap.size news ds') (hr:w3.ownsRow base T size (.slice (some ⟨g,0,none⟩) (n+1) cap) (n+1) (us++news)) (hg:w2.grownBy w3 v.ownBlock) (hgg:v.ownBlock=some g∨w2.heap.size≤g):
 Grw w3 base T size (.slice (some ⟨g,0,none⟩) (n+1) cap) (n+1) (ds++ds'):=by
 obtain⟨fs',k1,k2,k3,k4,k5⟩:=hN
 have hlt:∀k∈fs.flatten,k<w.heap.size:=Grw.flt h2 h3 h4
 have hlt':∀k∈fs'.flatten,k<w2.heap.size:=Grw.flt k1 k2 k3
 have hkold:∀k∈fs.flatten,w3.heap[k]?= w.heap[k]?:=fun k hk=>by
  rw[hg.block k (Nat.lt_of_lt_of_le (hlt k hk) hb.size) (fun e=>h7 k e.symm hk),hb.block k (hlt k hk)]
 have hknew:∀k∈fs'.flatten,w3.heap[k]?= w2.heap[k]?:=fun k hk=>hg.block k (hlt' k hk) (fun e=>by have:=hv k e.symm;have:=k5 k hk;omega)
 refine⟨us++news,fs++fs',hr,by simp[h2,k1],by simp[h3,k2],fun j d u f e1 e2 e3=> ?_,?_,fun k hk=> ?_,fun k hk hm=> ?_⟩
 · by_cases hj:j<ds.length
   · rw[List.getElem?_append_left (by omega)] at e1 e2 e3
     exact(h4 j d u f e1 e2 e3).kept fun k hk=>hkold k (List.mem_flatten.2 ⟨f,List.mem_of_getElem? e3,hk⟩)
   · rw[List.getElem?_append_right (by omega)] at e1 e2 e3
     rw[h2] at e2;rw[h3] at e3
     exact(k3 _ d u f e1 e2 e3).kept fun k hk=>hknew k (List.mem_flatten.2 ⟨f,List.mem_of_getElem? e3,hk⟩)
 · rw[List.flatten_append,List.nodup_append]
   exact⟨h5,k4,fun a ha b hb e=>by have:=hlt a ha;have:=k5 b hb;omega⟩
 · rw[List.flatten_append,List.mem_append] at hk
   rcases hk with hk | hk
   · exact h6 k hk
   · have:=k5 k hk;omega
 · have:g=k:=by simpa[Value.ownBlock] using hk
   subst this
   rw[List.flatten_append,List.mem_append] at hm
   rcases hgg with e | e
   · rcases hm with hm | hm
     · exact h7 g e hm
     · have:=hv g e;have:=k5 g hm;omega
   · rcases hm with hm | hm
     · have:=hlt g hm;have:=hb.size;omega
     · have:=hlt' g hm;omega
theorem wpList_grow {P:Program} {ops:Array Oper} {rest:List Oper} {o:Oper} {a:Act} {Q:Exit→Act→World→Prop} {w w2:World} (hgd:o.guard=none) (s x:Operand) (t e:TypeId)
 (ho:o.op= .call {callee:= .builtin .append,args:=#[s,x],argTypes:=#[t,t]}) (ht:P.underlying t=some (.slice e)) (z:Value) (size bytes:Nat)
 (hinfo:(P.info? e).map (fun i=>(i.zero,i.size,i.bytes))=some (some z,size,bytes)) (hzs:z.cells.size=size) (hsz:0<size) (hby:bytes≤1000)
 (base n:Nat) (v:Value) (ds ds':List Dt) (hs:a.eval s=v) (hG:Grw w base e size v n ds) (hbb:base≤w.heap.size) (hb:Below w.heap.size w w2)
 (news:List Value) (hN:Newd w2 w.heap.size news ds') (hnl:news.length=size) (h1:∀u∈news,u.oneCell'=true) (hx:a.eval x= .slice (some ⟨w2.heap.size,0,none⟩) 1 1) (hn:n≤1000000)
 (h:∀v' w3,Grw w3 base e size v' (n+1) (ds++ds')→w2.grownBy w3 v.ownBlock→(∀g,v'.ownBlock=some g→v.ownBlock=some g∨w2.heap.size≤g)→wpList P ops Q rest (a.put o.dst v') w3):
 wpList P ops Q (o::rest) a (w2.alloc (.cells news.toArray e)):=by
 obtain⟨i0,hi,hz0,hz1,hz2⟩:=info_parts hinfo
 obtain⟨us,fs,r1,r2,r3,r4,r5,r6,r7⟩:=hG
 have hr2:(w2.alloc (.cells news.toArray e)).ownsRow base e size v n us:=by
  have hq:w2.ownsRow base e size v n us:=by
   refine⟨r1.1,?_⟩
   rcases r1.2 with h | ⟨g,cap,cur,rfl,q1,q2,q3⟩
   · exact .inl h
   · exact .inr ⟨g,cap,cur,rfl,q1,by rw[hb.block g (Array.getElem?_eq_some_iff.1 q2).1];exact q2,q3⟩
  exact hq.alloc _
 have hblk:=heap_alloc_new w2 (.cells news.toArray e)
 refine wpList_append_lies _ hgd s x t ho base e i0 z size bytes ht hi hz0 hz1 hz2 hzs hsz v n us hs hr2 ⟨w2.heap.size,0,none⟩ 1 1 news hx (by omega) (fun j u hu=>World.news_of_block hblk j u (by simpa using hu)) h1 (by omega) (by unfold maxLen;omega) ?_ (Nat.le_trans (Nat.le_trans hbb hb.size) (by simp)) _ rfl ?_
 · have:(n+1)*bytes≤1000001*1000:=Nat.mul_le_mul (by omega) hby
   omega
 · intro g cap w3 g1 g2 g3 _
   have hgr:w2.grownBy w3 v.ownBlock:=⟨g2.os,g2.tape,g2.output,Nat.le_trans (by simp) g2.size,fun k hk hne=>by
    rw[g2.block k (by simp;omega) hne];exact heap_alloc_old w2 _ hk⟩
   have hlie:v.ownBlock=some g∨w2.heap.size≤g:=by
    rcases g3 with e | e
    · exact .inl e
    · exact .inr (by rw[e];simp)
   refine h _ w3 (Grw.pushed r2 r3 r4 r5 r6 r7 (fun g hg=>(r1.lt g hg).2) hbb hb hN g1 hgr hlie) hgr (fun g' hg'=> ?_)
   have:g=g':=by simpa[Value.ownBlock] using hg'
   rw[←this];exact hlie
inductive Rwt (w:World):Dt→Value→Prop
 | leaf (u:Value):Rwt w (.leaf u) u
 | emp (size:Nat) (a:Option Addr) (cap:Nat):Rwt w (.rows size []) (.slice a 0 cap)
 | mk {size n b off cap:Nat} {ds:List Dt} {us:List Value} (hl:ds.length=n*size) (hu:us.length=ds.length) (hn:n≤cap) (hc:cap≤maxLen) (hb:b<w.heap.size)
  (hcell:∀(j:Nat) (u:Value),us[j]?= some u→w.cell? ⟨b,off+j,none⟩=some u) (hd:∀(j:Nat) (d:Dt) (u:Value),ds[j]?= some d→us[j]?= some u→Rwt w d u):Rwt w (.rows size ds) (.slice (some ⟨b,off,none⟩) n cap)
theorem Rwt.leaf_inv {w:World} {u v:Value} (h:Rwt w (.leaf u) v):v=u:=by cases h;rfl
theorem Rwt.kept {w w':World} {d:Dt} {v:Value} (h:Rwt w d v) (hs:w.heap.size≤w'.heap.size) (hk:∀p:Addr,p.block<w.heap.size→w'.cell? p=w.cell? p):Rwt w' d v:=by
 induction h with
 | leaf u=>exact .leaf u
 | emp size a cap=>exact .emp size a cap
 | mk hl hu hn hc hb hcell hd ih=>exact .mk hl hu hn hc (by omega) (fun j u hj=>(hk _ hb).trans (hcell j u hj)) (fun j d u h1 h2=>ih j d u h1 h2)
theorem Rwt.behind {w w':World} {d:Dt} {v:Value} (h:Rwt w d v) (hb:Below w.heap.size w w'):Rwt w' d v:=h.kept hb.size (fun _ hp=>hb.cell hp)
theorem Rwt.opn {w:World} {size:Nat} {ds:List Dt} {v:Value} (h:Rwt w (.rows size ds) v):∃a n cap,v= .slice a n cap∧Hid (ds.length=n*size)∧n≤9223372036854775807∧
 (0<n→ ∃b off,a=some ⟨b,off,none⟩∧b<w.heap.size∧ ∀(j:Nat) (d:Dt),ds[j]?= some d→ ∃u,w.cell? ⟨b,off+j,none⟩=some u∧Rwt w d u):=by
 cases h with
 | emp size a cap=>exact⟨a,0,cap,rfl,by simp[Hid],by omega,fun h=>by omega⟩
 | @mk size n b off cap ds us hl hu hn hc hb hcell hd=>
   refine⟨_,n,cap,rfl,hl,by unfold maxLen at hc;omega,fun _=>⟨b,off,rfl,hb,fun j d hj=> ?_⟩⟩
   have hju:j<us.length:=by have:=(List.getElem?_eq_some_iff.1 hj).1;omega
   exact⟨us[j],hcell j _ (List.getElem?_eq_getElem hju),hd j _ _ hj (List.getElem?_eq_getElem hju)⟩
def Opens {H:Type} (enc:TypeId × Value→H) (P:Program) (w:World) (t:TypeId) {α:Type} (F:α→List Dt):Prop:=
 ∀(fuel:Nat) (cs:List Value) (x:DataW H × List MemPlace),DataW.trod enc P w 0 (fun _=>true) true fuel t cs=some x→ ∃a:α,cs.length=(F a).length∧ ∀(r:Nat) (d:Dt),(F a)[r]?= some d→ ∃u,cs[r]?= some u∧Rwt w d u
section
variable {H : Type} {enc : TypeId × Value → H} {P : Program} {w : World}
theorem opens_int {t:TypeId} (ht:P.underlying t=some (.int .i64)):Opens enc P w t (fun x:Int=>[.leaf (.int .i64 x)]):=fun fuel cs x h=>by
 obtain⟨n,rfl,_,_⟩:=DataW.trod_int ht h
 refine⟨n,rfl,fun r d hr=> ?_⟩
 match r with
 | 0=>simp at hr;subst hr;exact⟨_,rfl,.leaf _⟩
 | r+1=>simp at hr
theorem flat_at {α:Type} {F:α→List Dt} {k:Nat} (hF:∀a,(F a).length=k):∀(xs:List α) (i r:Nat),r<k→(xs.flatMap F)[i*k+r]?= (xs[i]?).bind fun a=>(F a)[r]?
 | [],i,r,_=>by simp
 | a::xs,0,r,h=>by
   rw[List.flatMap_cons,List.getElem?_append_left (by rw[hF];omega)]
   simp
 | a::xs,i+1,r,h=>by
   rw[List.flatMap_cons,List.getElem?_append_right (by rw[hF,Nat.add_mul];omega),hF,show(i+1)*k+r-k=i*k+r by rw[Nat.add_mul];omega,flat_at hF xs i r h]
   simp
theorem flat_length {α:Type} {F:α→List Dt} {k:Nat} (hF:∀a,(F a).length=k) (xs:List α):(xs.flatMap F).length=xs.length*k:=by
 induction xs with
 | nil=>simp
 | cons a xs ih=>rw[List.flatMap_cons,List.length_append,ih,hF,List.length_cons,Nat.add_mul];omega
theorem opens_slice {t e:TypeId} {α:Type} [Inhabited α] {F:α→List Dt} {k:Nat} (ht:P.underlying t=some (.slice e)) (hc:P.cellsOf e=k) (hk:0<k) (hF:∀a,(F a).length=k) (he:Opens enc P w e F):
 Opens enc P w t (fun xs:List α=>[.rows k (xs.flatMap F)]):=fun fuel cs x h=>by
 rcases Deep.open_slice ht h with ⟨rfl,_⟩ | ⟨a,len,cap,m,n,D,Pl,rfl,_,hl,hm,hmc,_,hx⟩
 · refine⟨[],rfl,fun r d hr=> ?_⟩
   match r with
   | 0=>simp at hr;subst hr;exact⟨_,rfl,.emp k none 0⟩
   | r+1=>simp at hr
 · rw[hc] at hx
   have hmc':m=cap:=by simpa using hmc
   by_cases h0:len=0
   · subst h0
     refine⟨[],rfl,fun r d hr=> ?_⟩
     match r with
     | 0=>simp at hr;subst hr;exact⟨_,rfl,.emp k _ cap⟩
     | r+1=>simp at hr
   · obtain⟨g,hg⟩:=Deep.choose_lt (α:=α) (n:=len) (p:=fun i y=>∃cs',w.cells? 0 (a.add (i*k)) k=some cs'∧cs'.length=(F y).length∧ ∀(r:Nat) (d:Dt),(F y)[r]?= some d→ ∃u,cs'[r]?= some u∧Rwt w d u) (fun i hi=>by
      obtain⟨cs',h1,h2⟩:=hx i (by omega)
      obtain⟨y,k1,k2⟩:=he _ _ _ h2
      exact⟨y,cs',h1,k1,k2⟩)
     obtain⟨b,off,spot⟩:=a
     obtain⟨cs0,q1,q2,q3⟩:=hg 0 (by omega)
     obtain⟨d0,hd0⟩:∃d,(F (g 0))[0]?= some d:=⟨(F (g 0))[0]'(by rw[hF];exact hk),List.getElem?_eq_getElem _⟩
     obtain⟨u0,hu0,_⟩:=q3 0 d0 hd0
     have hc0:=(World.cells?_some q1).2.2 0 hk
     rw[hu0] at hc0
     have hspot:spot=none:=by simpa[Addr.add] using World.cell?_spot hc0
     subst hspot
     have hb:b<w.heap.size:=by
      have:=World.block_lt_of_cell? w _ hc0
      simpa[Addr.add] using this
     have hadd:∀j,(⟨b,off,none⟩:Addr).add j=⟨b,off+j,none⟩:=fun j=>by unfold Addr.add;split <;> simp_all
     have hgl:∀j,j<len*k→ ∃u,w.cell? ⟨b,off+j,none⟩=some u∧ ∀d,(((List.range len).map g).flatMap F)[j]?= some d→Rwt w d u:=fun j hj=>by
      have hjk:j%k<k:=Nat.mod_lt _ hk
      have hjl:j/k<len:=Nat.div_lt_of_lt_mul (by rw[Nat.mul_comm];exact hj)
      obtain⟨cs',r1,r2,r3⟩:=hg (j/k) hjl
      have hcj:=(World.cells?_some r1).2.2 (j%k) hjk
      have hlen:=(World.cells?_some r1).2.1
      have ej:j/k*k+j%k=j:=by rw[Nat.mul_comm];exact Nat.div_add_mod j k
      rw[hadd,show(⟨b,off+j/k*k,none⟩:Addr).add (j%k)=⟨b,off+j,none⟩ from by
       unfold Addr.add;split
       · rename_i h;rw[h,Nat.add_zero] at ej;rw[ej]
       · simp;omega,List.getElem?_eq_getElem (by omega)] at hcj
      refine⟨_,hcj,fun d hd=> ?_⟩
      rw[←ej,flat_at hF _ _ _ hjk] at hd
      simp[hjl] at hd
      obtain⟨u,s1,s2⟩:=r3 _ _ hd
      rw[List.getElem?_eq_getElem (by omega)] at s1
      cases s1
      exact s2
     obtain⟨U,hU⟩:=Deep.choose_lt (α:=Value) hgl
     refine⟨(List.range len).map g,rfl,fun r d hr=> ?_⟩
     match r with
     | 0=>
       simp only[List.getElem?_cons_zero,Option.some.injEq] at hr
       subst hr
       have hfl:=flat_length hF ((List.range len).map g)
       simp only[List.length_map,List.length_range] at hfl
       refine⟨_,rfl,.mk (us:=(List.range (len*k)).map U) hfl (by simp[hfl]) hl hm hb (fun j u hj=> ?_) (fun j d u e1 e2=> ?_)⟩
       · have hjl:j<len*k:=by have:=(List.getElem?_eq_some_iff.1 hj).1;simpa using this
         simp[hjl] at hj
         rw[←hj];exact(hU j hjl).1
       · have hjl:j<len*k:=by have:=(List.getElem?_eq_some_iff.1 e2).1;simpa using this
         simp[hjl] at e2
         rw[←e2];exact(hU j hjl).2 d e1
     | r+1=>simp at hr
theorem opens_val {t e:TypeId} {α:Type} {G:α→Dt} {r:Reach} {b0:Nat} {v:Value} {d:DataW H} {ps:List MemPlace} (ht:P.underlying t=some (.slice e)) (hval:Value.okWide P w r b0 t v) (ho:Opens enc P w t (fun a=>[G a])) (h:DataW.Trod enc P w 0 (fun _=>true) true t v d ps):∃a:α,Rwt w (G a) v:=by
 obtain⟨a,len,cap,rfl⟩:=WideShapes.okWide_slice ht hval
 obtain⟨m,hm⟩:=h
 obtain⟨x,_,hx⟩:=ho _ _ _ hm
 obtain⟨u,h1,h2⟩:=hx 0 _ rfl
 simp[Value.cells] at h1
 subst h1
 exact⟨x,h2⟩
end
section
variable {H : Type} {enc : TypeId × Value → H} {P : Program} {w : World}
end
theorem Ofr.lf (w:World) (lo:Nat) (x:Value):Ofr w lo (.leaf x) x:=⟨[],.leaf x,List.nodup_nil,fun k hk=>by cases hk⟩
section
variable {α : Type}
def fltC (enc:α→List Value) (zs:List α):List Dt:=zs.flatMap fun z=>(enc z).map Dt.leaf
def flt (m:Nat) (enc:α→List Value) (zs:List α):Dt:= .rows m (fltC enc zs)
theorem fltC_len {enc:α→List Value} {m:Nat} (hm:∀z,(enc z).length=m) (zs:List α):(fltC enc zs).length=zs.length*m:=by
 induction zs with
 | nil=>simp[fltC]
 | cons z zs ih=>
   simp only[fltC,List.flatMap_cons,List.length_append,List.length_map,hm,List.length_cons] at ih ⊢
   rw[ih,Nat.add_mul,Nat.one_mul,Nat.add_comm]
theorem fltC_at {enc:α→List Value} {m:Nat} (hm:∀z,(enc z).length=m) (zs:List α) (i r:Nat) (hr:r<m):(fltC enc zs)[i*m+r]?= (zs[i]?).bind fun z=>((enc z)[r]?).map Dt.leaf:=by
 induction zs generalizing i with
 | nil=>simp[fltC]
 | cons z zs ih=>
   have hl:((enc z).map Dt.leaf).length=m:=by simp[hm]
   simp only[fltC,List.flatMap_cons] at ih ⊢
   rcases i with _ | i
   · rw[Nat.zero_mul,Nat.zero_add,List.getElem?_append_left (by omega)]
     simp
   · rw[List.getElem?_append_right (by rw[hl,Nat.add_mul];omega),hl,show(i+1)*m+r-m=i*m+r by rw[Nat.add_mul];omega,ih i]
     simp
theorem fltC_cell {enc:α→List Value} {m:Nat} (hm:∀z,(enc z).length=m) (nil:α) (zs:List α) (i r:Nat) (u:Value) (hi:i<zs.length) (hu:(enc (zs[i]?.getD nil))[r]?= some u):(fltC enc zs)[i*m+r]?= some (.leaf u):=by
 have hr:r<m:=by rw[←hm (zs[i]?.getD nil)];exact(List.getElem?_eq_some_iff.1 hu).1
 rw[fltC_at hm zs i r hr]
 rw[List.getElem?_eq_getElem hi] at hu ⊢
 simp only[Option.getD_some] at hu
 simp[hu]
theorem flt_opn {enc:α→List Value} {m:Nat} {w:World} {v:Value} {zs:List α} (hm:∀z,(enc z).length=m) (hm0:0<m) (nil:α) (h:Rdt w (flt m enc zs) v):
 ∃a n cap,v= .slice a n cap∧Hid (zs.length=n)∧n≤cap∧n≤9223372036854775807∧
 (0<n→ ∃b off,a=some ⟨b,off,none⟩∧b<w.heap.size∧ ∀i,i<n→ ∀r u,(enc (zs[i]?.getD nil))[r]?= some u→w.cell? ⟨b,off+i*m+r,none⟩=some u):=by
 obtain⟨a,n,cap,hv,HN,h1,h2,h3⟩:=h.opn
 have hn:zs.length=n:=by
  have:=HN.out
  rw[fltC_len hm] at this
  exact Nat.eq_of_mul_eq_mul_right hm0 this
 refine⟨a,n,cap,hv,hn,h1,h2,fun h0=> ?_⟩
 obtain⟨b,off,ea,hb,hc⟩:=h3 h0
 refine⟨b,off,ea,hb,fun i hi r u hu=> ?_⟩
 obtain⟨u',k1,k2⟩:=hc (i*m+r) (.leaf u) (fltC_cell hm nil zs i r u (by omega) hu)
 rw[Nat.add_assoc,k1,k2.leaf_inv]
theorem flt_opnw {enc:α→List Value} {m:Nat} {w:World} {v:Value} {zs:List α} (hm:∀z,(enc z).length=m) (hm0:0<m) (nil:α) (h:Rwt w (flt m enc zs) v):
 ∃a n cap,v= .slice a n cap∧Hid (zs.length=n)∧n≤9223372036854775807∧
 (0<n→ ∃b off,a=some ⟨b,off,none⟩∧b<w.heap.size∧ ∀i,i<n→ ∀r u,(enc (zs[i]?.getD nil))[r]?= some u→w.cell? ⟨b,off+i*m+r,none⟩=some u):=by
 obtain⟨a,n,cap,hv,HN,h2,h3⟩:=h.opn
 have hn:zs.length=n:=by
  have:=HN.out
  rw[fltC_len hm] at this
  exact Nat.eq_of_mul_eq_mul_right hm0 this
 refine⟨a,n,cap,hv,hn,h2,fun h0=> ?_⟩
 obtain⟨b,off,ea,hb,hc⟩:=h3 h0
 refine⟨b,off,ea,hb,fun i hi r u hu=> ?_⟩
 obtain⟨u',k1,k2⟩:=hc (i*m+r) (.leaf u) (fltC_cell hm nil zs i r u (by omega) hu)
 rw[Nat.add_assoc,k1,k2.leaf_inv]
def setRow (w:World) (g o:Nat):List Value→World
 | []=>w
 | u::us=>setRow (w.setCell ⟨g,o,none⟩ u) g (o+1) us
def setDs (ds:List Dt) (o:Nat):List Value→List Dt
 | []=>ds
 | u::us=>setDs (ds.set o (.leaf u)) (o+1) us
theorem setDs_at (us:List Value):∀(ds:List Dt) (o j:Nat),o+us.length≤ds.length→(setDs ds o us)[j]?= if o≤j∧j<o+us.length then(us[j-o]?).map Dt.leaf else ds[j]?:=by
 induction us with
 | nil=>intro ds o j h;rw[setDs,if_neg (by simp)]
 | cons u us ih=>
   intro ds o j h
   rw[List.length_cons] at h
   rw[setDs,ih _ _ _ (by rw[List.length_set];omega),List.length_cons]
   by_cases e:o=j
   · subst e
     rw[if_neg (by omega),if_pos (by omega),List.getElem?_set_self (by omega),Nat.sub_self]
     rfl
   · rw[List.getElem?_set_ne e]
     by_cases e2:o+1≤j∧j<o+1+us.length
     · rw[if_pos e2,if_pos (by omega),show j-o=(j-(o+1))+1 by omega,List.getElem?_cons_succ]
     · rw[if_neg e2,if_neg (by omega)]
theorem setDs_flt {enc:α→List Value} {m:Nat} (hm:∀z,(enc z).length=m) (hm0:0<m) (zs:List α) (z:α) {k:Nat} (hk:k<zs.length):setDs (fltC enc zs) (k*m) (enc z)=fltC enc (zs.set k z):=by
 have hkm:k*m+m≤zs.length*m:=by
  have:=Nat.mul_le_mul_right m (show k+1≤zs.length by omega)
  rw[Nat.add_mul] at this;omega
 apply List.ext_getElem?
 intro j
 rw[setDs_at _ _ _ _ (by rw[hm,fltC_len hm];exact hkm),hm]
 obtain⟨i,r,hr,rfl⟩:∃i r,r<m∧j=i*m+r:=⟨j/m,j%m,Nat.mod_lt _ hm0,by rw[Nat.mul_comm];exact(Nat.div_add_mod j m).symm⟩
 rw[fltC_at hm _ i r hr,fltC_at hm _ i r hr]
 by_cases e:k=i
 · subst e
   rw[if_pos (by omega),List.getElem?_set_self hk,Nat.add_sub_cancel_left]
   rfl
 · rw[List.getElem?_set_ne e,if_neg]
   intro h
   rcases Nat.lt_or_gt_of_ne e with h2 | h2
   · have:=Nat.mul_le_mul_right m (show k+1≤i by omega)
     rw[Nat.add_mul] at this;omega
   · have:=Nat.mul_le_mul_right m (show i+1≤k by omega)
     rw[Nat.add_mul] at this;omega
theorem Ofr.putRow {base size:Nat} {v:Value} {g off n cap:Nat} (hv:v= .slice (some ⟨g,off,none⟩) n cap) (us:List Value):∀(w:World) (ds:List Dt) (o:Nat),Ofr w base (.rows size ds) v→base≤w.heap.size→o+us.length≤ds.length→
 Ofr (setRow w g (off+o) us) base (.rows size (setDs ds o us)) v:=by
 induction us with
 | nil=>intro w ds o h _ _;exact h
 | cons u us ih=>
   intro w ds o h hb hl
   rw[List.length_cons] at hl
   obtain⟨g',off',n',cap',e,-,-,-,-,h2⟩:=h.put hb (Below.refl _ _) (Ofr.lf w w.heap.size u) (j:=o) (by omega)
   rw[hv] at e
   simp only[Value.slice.injEq,Option.some.injEq,Addr.mk.injEq,and_true] at e
   obtain⟨⟨rfl,rfl⟩,rfl,rfl⟩:=e
   exact ih _ _ (o+1) h2 (by simpa using hb) (by rw[List.length_set];omega)
theorem Ofr.frozen {w:World} {base size g off n cap:Nat} {ds:List Dt} (h:Ofr w base (.rows size ds) (.slice (some ⟨g,off,none⟩) n cap)) (j:Nat):w.frozen? ⟨g,j,none⟩=false:=by
 obtain⟨fp,q,_⟩:=h
 cases q with
 | mk hl hu hf hn hc hgg hcs ht hd=>exact frozen_of_row _ _ _ _ _ hgg
theorem flt_put {enc:α→List Value} {m base:Nat} {w:World} {v:Value} {zs:List α} (hm:∀z,(enc z).length=m) (hm0:0<m) (h:Ofr w base (flt m enc zs) v) (hb:base≤w.heap.size) {k:Nat} (hk:k<zs.length) (z:α):
 ∃g off cap,v= .slice (some ⟨g,off,none⟩) zs.length cap∧base≤g∧g<w.heap.size∧(∀r,r<m→ ∃u0,w.cell? ⟨g,off+k*m+r,none⟩=some u0)∧(∀j,w.frozen? ⟨g,j,none⟩=false)∧
  Ofr (setRow w g (off+k*m) (enc z)) base (flt m enc (zs.set k z)) v:=by
 have hkm:k*m+m≤zs.length*m:=by
  have:=Nat.mul_le_mul_right m (show k+1≤zs.length by omega)
  rw[Nat.add_mul] at this;omega
 have hl:=fltC_len hm zs
 obtain⟨g,off,n,cap,rfl,h1,h2,-,-,-⟩:=h.put hb (Below.refl _ _) (Ofr.lf w w.heap.size undef) (j:=k*m) (by omega)
 have hn:zs.length=n:=by
  obtain⟨a,n',cap',e,HN,-,-,-⟩:=h.rd.opn
  simp only[Value.slice.injEq] at e
  obtain⟨-,rfl,-⟩:=e
  have:=HN.out
  rw[hl] at this
  exact Nat.eq_of_mul_eq_mul_right hm0 this
 subst hn
 refine⟨g,off,cap,rfl,h1,h2,fun r hr=> ?_,fun j=> ?_,?_⟩
 · obtain⟨g',off',n',cap',e,-,-,⟨u0,h3⟩,-,-⟩:=h.put hb (Below.refl _ _) (Ofr.lf w w.heap.size undef) (j:=k*m+r) (by omega)
   simp only[Value.slice.injEq,Option.some.injEq,Addr.mk.injEq,and_true] at e
   obtain⟨⟨rfl,rfl⟩,-,rfl⟩:=e
   rw[←Nat.add_assoc] at h3
   exact⟨u0,h3⟩
 · exact h.frozen j
 · have:=h.putRow rfl (enc z) w (fltC enc zs) (k*m) hb (by rw[hm];omega)
   rw[setDs_flt hm hm0 zs z hk] at this
   exact this
theorem Ofr.of_row {w:World} {base m n:Nat} {T:TypeId} {v:Value} {us:List Value} (h:w.ownsRow base T m v n us):Ofr w base (.rows m (us.map Dt.leaf)) v:=by
 refine Grw.ofr (T:=T) (n:=n) ⟨us,List.replicate us.length [],h,by simp,by simp,fun j d u f e1 e2 e3=> ?_,by simp,by simp,by simp⟩
 rw[List.getElem?_map,e2] at e1
 simp at e1
 subst e1
 have:f=[]:=by
  have:=List.mem_of_getElem? e3
  exact List.eq_of_mem_replicate this
 subst this
 exact .leaf _
theorem flt_of_row {enc:α→List Value} {w:World} {base m n:Nat} {T:TypeId} {v:Value} {zs:List α} (h:w.ownsRow base T m v n (zs.flatMap enc)):Ofr w base (flt m enc zs) v:=by
 have:=Ofr.of_row h
 rw[List.map_flatMap] at this
 exact this
end
set_option maxRecDepth 100000
def nilS:ByteArray:=⟨#[]⟩
def strE (s:ByteArray):List Value:=[.string s]
def plc (ns:List ByteArray) (x:ByteArray):Int:=match ns.findIdx? (fun s=>s.toList==x.toList) with | some i=>(i:Int) | none=> -1
theorem plc_none {ns:List ByteArray} {x:ByteArray} (h:ns.any (fun s=>s.toList==x.toList)=false):plc ns x= -1:=by
 unfold plc
 rw[List.findIdx?_eq_none_iff.2 fun s hs=>by
  have:=(List.any_eq_false.1 h) s hs
  simpa using this]
theorem plc_some {ns:List ByteArray} {x:ByteArray} {k:Nat} (hk:k<ns.length) (h:(ns.take k).any (fun s=>s.toList==x.toList)=false) (e:((ns[k]?.getD nilS).toList==x.toList)=true):plc ns x=(k:Int):=by
 rw[List.getElem?_eq_getElem hk] at e
 unfold plc
 rw[List.findIdx?_eq_some_iff_getElem.2 ⟨hk,by simpa using e,fun j hj=>by
  have:=(List.any_eq_false.1 h) (ns[j]'(by omega)) (List.mem_take_iff_getElem.2 ⟨j,by omega,rfl⟩)
  simpa using this⟩]
theorem any_more {ns:List ByteArray} {x:ByteArray} {k:Nat} (hk:k<ns.length) (h:(ns.take k).any (fun s=>s.toList==x.toList)=false) (e:((ns[k]?.getD nilS).toList==x.toList)=false):(ns.take (k+1)).any (fun s=>s.toList==x.toList)=false:=by
 rw[List.getElem?_eq_getElem hk] at e
 rw[List.take_add_one,List.any_append,h,List.getElem?_eq_getElem hk]
 simpa using e
theorem l2Find_any (v:Value) (ns:List ByteArray) (x:ByteArray) (w:World) (h:Rdt w (flt 1 strE ns) v):
 Calls Tryz.prog 169 #[v,.string x] w fun e w'=>e= .returned (.int .i64 (plc ns x))∧w=w':=by
 obtain⟨a,n,cap,rfl,HN,_,hnl,ha⟩:=flt_opn (m:=1) (enc:=strE) (fun _=>rfl) (by omega) nilS h
 have HA:=Lib.hid ha
 have HP:=Lib.hid (fun k (hk:k<ns.length)=>@plc_some ns x k hk)
 have HM:=Lib.hid (fun k (hk:k<ns.length)=>@any_more ns x k hk)
 have HO:=Lib.hid (@plc_none ns x)
 clear ha h
 generalize plc ns x=r at *
 go_enter Tryz.func169,Tryz.ntmps169
 go_wp2
 go_loop [5] (fun i=>∃k:Nat,k≤n∧i= .int .i64 k∧Hid ((ns.take k).any (fun s=>s.toList==x.toList)=false)) (fun i=>n-(intOf i).toNat)
 case atStart=>exact⟨0,Nat.zero_le _,rfl,by simp[Hid]⟩
 case round=>
  obtain⟨k,hk,rfl,HT⟩:=hrel
  by_cases hlt:k<n
  · have hltI:(k:Int)<(n:Int):=by omega
    have hkx:k<ns.length:=by rw[HN.out];exact hlt
    obtain⟨b,off,rfl,hbs,hcs⟩:=HA.out (by omega)
    have hc0:=hcs k hlt 0 _ rfl
    rw[Nat.mul_one,Nat.add_zero] at hc0
    have HP1:=Lib.hid (HP.out k hkx HT.out)
    have HM1:=Lib.hid (HM.out k hkx HT.out)
    clear hcs hkx
    generalize ns[k]?.getD nilS=s at *
    by_cases he:(s.toList==x.toList)=true
    · have HE:=Lib.hid (HP1.out he)
      go_wp2
      go_ret
      exact⟨by rw[HE.out];rfl,rfl⟩
    · have he:(s.toList==x.toList)=false:=by simpa using he
      have HE:=Lib.hid (HM1.out he)
      go_wp2
      go_round
      case rel=>exact⟨k+1,by omega,by go_num,HE.out⟩
      case measure=>simp[intOf];omega
  · obtain rfl:k=n:=by omega
    have hall:=HT.out
    rw[←HN.out,List.take_length] at hall
    have HE:=Lib.hid (HO.out hall)
    clear hall
    go_wp2
    go_ret
    exact⟨by rw[HE.out];rfl,rfl⟩
theorem indexS_any (v:Value) (ns:List ByteArray) (x:ByteArray) (w:World) (h:Rdt w (flt 1 strE ns) v):
 Calls Tryz.prog 172 #[v,.string x] w fun e w'=>e= .returned (.int .i64 (plc ns x))∧w=w':=by
 obtain⟨a,n,cap,rfl,HN,_,hnl,ha⟩:=flt_opn (m:=1) (enc:=strE) (fun _=>rfl) (by omega) nilS h
 have HA:=Lib.hid ha
 have HP:=Lib.hid (fun k (hk:k<ns.length)=>@plc_some ns x k hk)
 have HM:=Lib.hid (fun k (hk:k<ns.length)=>@any_more ns x k hk)
 have HO:=Lib.hid (@plc_none ns x)
 clear ha h
 generalize plc ns x=r at *
 go_enter Tryz.func172,Tryz.ntmps172
 go_wp2
 go_loop [5,8] (fun _ i=>∃k:Nat,k≤n∧i= .int .i64 k∧Hid ((ns.take k).any (fun s=>s.toList==x.toList)=false)) (fun _ i=>n-(intOf i).toNat)
 case atStart=>exact⟨0,Nat.zero_le _,rfl,by simp[Hid]⟩
 case round=>
  obtain⟨k,hk,rfl,HT⟩:=hrel
  by_cases hlt:k<n
  · have hltI:(k:Int)<(n:Int):=by omega
    have hkx:k<ns.length:=by rw[HN.out];exact hlt
    obtain⟨b,off,rfl,hbs,hcs⟩:=HA.out (by omega)
    have hc0:=hcs k hlt 0 _ rfl
    rw[Nat.mul_one,Nat.add_zero] at hc0
    have HP1:=Lib.hid (HP.out k hkx HT.out)
    have HM1:=Lib.hid (HM.out k hkx HT.out)
    clear hcs hkx
    generalize ns[k]?.getD nilS=s at *
    by_cases he:(s.toList==x.toList)=true
    · have HE:=Lib.hid (HP1.out he)
      have he2:(x.toList==s.toList)=true:=by rw[←he];exact BEq.comm
      go_wp2
      go_ret
      exact⟨by rw[HE.out];rfl,rfl⟩
    · have he:(s.toList==x.toList)=false:=by simpa using he
      have HE:=Lib.hid (HM1.out he)
      have he2:(x.toList==s.toList)=false:=by rw[←he];exact BEq.comm
      go_wp2
      go_round
      case rel=>exact⟨k+1,by omega,by go_num,HE.out⟩
      case measure=>simp[intOf];omega
  · obtain rfl:k=n:=by omega
    have hall:=HT.out
    rw[←HN.out,List.take_length] at hall
    have HE:=Lib.hid (HO.out hall)
    clear hall
    go_wp2
    go_ret
    exact⟨by rw[HE.out];rfl,rfl⟩
theorem containsS_any (v:Value) (ns:List ByteArray) (x:ByteArray) (w:World) (h:Rdt w (flt 1 strE ns) v):
 Calls Tryz.prog 129 #[v,.string x] w fun e w'=>e= .returned (.bool (decide (0≤plc ns x)))∧w=w':=by
 have HI:=Lib.hid (indexS_any v ns x w h)
 generalize plc ns x=r at *
 obtain⟨a,n,cap,rfl,-,-,-,-⟩:=flt_opn (m:=1) (enc:=strE) (fun _=>rfl) (by omega) nilS h
 clear h
 go_enter Tryz.func129,Tryz.ntmps129
 go_wp2_with (go_at_call 172;refine(HI.out).mono ?_;rintro e w' ⟨rfl,rfl⟩)
 go_ret
 exact⟨rfl,rfl⟩
structure Fib where
 a:Int
 b:Int
 l:Int
 r:Int
def nilB:Fib:=⟨0,0,0,0⟩
def fibE (f:Fib):List Value:=[.int .i64 f.a,.int .i64 f.b,.int .i64 f.l,.int .i64 f.r]
def fibV (f:Fib):Value:= .agg #[.int .i64 f.a,.int .i64 f.b,.int .i64 f.l,.int .i64 f.r]
def fibOk (f:Fib) (m:Nat):Bool:=inB f.a 0 ((m:Int)-1)&&inB f.b (f.a+1) ((m:Int)-1)&&inB f.l 1 5000&&inB f.r 0 9
theorem l2Fiber_any (f:Fib) (m:Nat) (w:World) (hm:m≤1000):
 Calls Tryz.prog 170 #[fibV f,.int .i64 (m:Int)] w fun e w'=>e= .returned (.bool (fibOk f m))∧Below w.heap.size w w':=by
 obtain⟨a,b,l,r⟩:=f
 have HB:=Lib.hid ((Below.refl w.heap.size w).alloc (Nat.le_refl _) (.cells #[.int .i64 a,.int .i64 b,.int .i64 l,.int .i64 r] 146))
 have HF:=Lib.hid (show fibOk ⟨a,b,l,r⟩ m=(inB a 0 ((m:Int)-1)&&inB b (a+1) ((m:Int)-1)&&inB l 1 5000&&inB r 0 9) from rfl)
 generalize fibOk ⟨a,b,l,r⟩ m=q at *
 unfold fibV
 cases h1:inB a 0 ((m:Int)-1)
 · rw[h1] at HF
   go_enter Tryz.func170,Tryz.ntmps170
   go_wp2_with (go_at_call 77;refine(l1In_any _ _ _ _).mono ?_;rintro e w' ⟨rfl,rfl⟩)
   go_ret
   exact⟨by rw[HF.out];rfl,HB.out⟩
 rw[h1] at HF
 have hb1:=inB_true h1
 cases h2:inB b (a+1) ((m:Int)-1)
 · rw[h2] at HF
   go_enter Tryz.func170,Tryz.ntmps170
   go_wp2_with (go_at_call 77;refine(l1In_any _ _ _ _).mono ?_;rintro e w' ⟨rfl,rfl⟩)
   go_ret
   exact⟨by rw[HF.out];rfl,HB.out⟩
 rw[h2] at HF
 cases h3:inB l 1 5000
 · rw[h3] at HF
   go_enter Tryz.func170,Tryz.ntmps170
   go_wp2_with (go_at_call 77;refine(l1In_any _ _ _ _).mono ?_;rintro e w' ⟨rfl,rfl⟩)
   go_ret
   exact⟨by rw[HF.out];rfl,HB.out⟩
 rw[h3] at HF
 go_enter Tryz.func170,Tryz.ntmps170
 go_wp2_with (go_at_call 77;refine(l1In_any _ _ _ _).mono ?_;rintro e w' ⟨rfl,rfl⟩)
 go_ret
 exact⟨by rw[HF.out];rfl,HB.out⟩
def fibGt (f g:Fib):Bool:=if f.a≠g.a then decide (g.a<f.a) else if f.b≠g.b then decide (g.b<f.b) else if f.l≠g.l then decide (g.l<f.l) else decide (g.r<f.r)
def smallF (f:Fib):Prop:=(-100000≤f.a∧f.a≤100000)∧(-100000≤f.b∧f.b≤100000)∧(-100000≤f.l∧f.l≤100000)∧(-100000≤f.r∧f.r≤100000)
def befF (f g:Fib):Int:=if f.a≠g.a then f.a-g.a else if f.b≠g.b then f.b-g.b else if f.l≠g.l then f.l-g.l else f.r-g.r
theorem befF_gt (f g:Fib):decide (0<befF f g)=fibGt f g:=by
 unfold befF fibGt
 by_cases e1:f.a≠g.a
 · rw[if_pos e1,if_pos e1];congr 1;simp only[eq_iff_iff];omega
 · rw[if_neg e1,if_neg e1]
   by_cases e2:f.b≠g.b
   · rw[if_pos e2,if_pos e2];congr 1;simp only[eq_iff_iff];omega
   · rw[if_neg e2,if_neg e2]
     by_cases e3:f.l≠g.l
     · rw[if_pos e3,if_pos e3];congr 1;simp only[eq_iff_iff];omega
     · rw[if_neg e3,if_neg e3];congr 1;simp only[eq_iff_iff];omega
theorem l2Before_any (f g:Fib) (w:World) (hf:smallF f) (hg:smallF g):
 Calls Tryz.prog 171 #[fibV f,fibV g] w fun e w'=>e= .returned (.int .i64 (befF f g))∧Below w.heap.size w w':=by
 obtain⟨a,b,l,r⟩:=f
 obtain⟨a',b',l',r'⟩:=g
 obtain⟨a1,b1,l1,r1⟩:=hf
 obtain⟨a2,b2,l2,r2⟩:=hg
 simp only at a1 b1 l1 r1 a2 b2 l2 r2
 have hal:=(Below.refl w.heap.size w).alloc (Nat.le_refl _) (.cells #[.int .i64 a,.int .i64 b,.int .i64 l,.int .i64 r] 146)
 have HB:=Lib.hid (hal.alloc hal.size (.cells #[.int .i64 a',.int .i64 b',.int .i64 l',.int .i64 r'] 146))
 have HD:=Lib.hid (show∀d:Int,(if a≠a' then d=a-a' else if b≠b' then d=b-b' else if l≠l' then d=l-l' else d=r-r')→befF ⟨a,b,l,r⟩ ⟨a',b',l',r'⟩=d from by
  intro d h
  unfold befF
  simp only
  split at h
  · rename_i e
    rw[if_pos e];exact h.symm
  · rename_i e
    rw[if_neg e]
    split at h
    · rename_i e2
      rw[if_pos e2];exact h.symm
    · rename_i e2
      rw[if_neg e2]
      split at h
      · rename_i e3
        rw[if_pos e3];exact h.symm
      · rename_i e3
        rw[if_neg e3];exact h.symm)
 generalize befF ⟨a,b,l,r⟩ ⟨a',b',l',r'⟩=q at *
 unfold fibV
 clear hal
 by_cases e1:a=a'
 case neg=>
  have e1b:(a != a')=true:=by rw[bne_iff_ne];exact e1
  have HX:=Lib.hid (HD.out (a-a') (by rw[if_pos e1]))
  clear e1
  go_enter Tryz.func171,Tryz.ntmps171
  go_wp2
  go_ret
  exact⟨by rw[HX.out];rfl,HB.out⟩
 have e1b:(a != a')=false:=by simp[e1]
 by_cases e2:b=b'
 case neg=>
  have e2b:(b != b')=true:=by rw[bne_iff_ne];exact e2
  have HX:=Lib.hid (HD.out (b-b') (by rw[if_neg (by simpa using e1),if_pos e2]))
  clear e1 e2
  go_enter Tryz.func171,Tryz.ntmps171
  go_wp2
  go_ret
  exact⟨by rw[HX.out];rfl,HB.out⟩
 have e2b:(b != b')=false:=by simp[e2]
 by_cases e3:l=l'
 case neg=>
  have e3b:(l != l')=true:=by rw[bne_iff_ne];exact e3
  have HX:=Lib.hid (HD.out (l-l') (by rw[if_neg (by simpa using e1),if_neg (by simpa using e2),if_pos e3]))
  clear e1 e2 e3
  go_enter Tryz.func171,Tryz.ntmps171
  go_wp2
  go_ret
  exact⟨by rw[HX.out];rfl,HB.out⟩
 have e3b:(l != l')=false:=by simp[e3]
 have HX:=Lib.hid (HD.out (r-r') (by rw[if_neg (by simpa using e1),if_neg (by simpa using e2),if_neg (by simpa using e3)]))
 clear e1 e2 e3
 go_enter Tryz.func171,Tryz.ntmps171
 go_wp2
 go_ret
 exact⟨by rw[HX.out];rfl,HB.out⟩
def cmpI (a b:Int):Int:=if a<b then -1 else if b<a then 1 else 0
theorem notNaN_any (a:Int) (w:World):Calls Tryz.prog 212 #[.int .i64 a] w fun e w'=>e= .returned (.bool false)∧w=w':=by
 have h:(a != a)=false:=by simp
 go_enter Tryz.func212,Tryz.ntmps212
 go_wp2
 go_ret
 exact⟨rfl,rfl⟩
theorem compare_any (a b:Int) (w:World):Calls Tryz.prog 174 #[.int .i64 a,.int .i64 b] w fun e w'=>e= .returned (.int .i64 (cmpI a b))∧w=w':=by
 by_cases h1:a<b
 · have h1d:decide (a<b)=true:=decide_eq_true h1
   have HR:=Lib.hid (show cmpI a b= -1 by unfold cmpI;rw[if_pos h1])
   go_enter Tryz.func174,Tryz.ntmps174
   go_wp2_with (go_at_call 212;refine(notNaN_any _ _).mono ?_;rintro e w' ⟨rfl,rfl⟩)
   go_ret
   exact⟨by rw[HR.out];rfl,rfl⟩
 have h1d:decide (a<b)=false:=decide_eq_false h1
 by_cases h2:b<a
 · have h2d:decide (b<a)=true:=decide_eq_true h2
   have HR:=Lib.hid (show cmpI a b=1 by unfold cmpI;rw[if_neg h1,if_pos h2])
   go_enter Tryz.func174,Tryz.ntmps174
   go_wp2_with (go_at_call 212;refine(notNaN_any _ _).mono ?_;rintro e w' ⟨rfl,rfl⟩)
   go_ret
   exact⟨by rw[HR.out];rfl,rfl⟩
 · have h2d:decide (b<a)=false:=decide_eq_false h2
   have HR:=Lib.hid (show cmpI a b=0 by unfold cmpI;rw[if_neg h1,if_neg h2])
   go_enter Tryz.func174,Tryz.ntmps174
   go_wp2_with (go_at_call 212;refine(notNaN_any _ _).mono ?_;rintro e w' ⟨rfl,rfl⟩)
   go_ret
   exact⟨by rw[HR.out];rfl,rfl⟩
def orI:List Int→Int
 | []=>0
 | x::xs=>if x=0 then orI xs else x
theorem orI_none:∀{xs:List Int},xs.all (fun x=>x==0)=true→orI xs=0
 | [],_=>rfl
 | x::xs,h=>by
   simp only[List.all_cons,Bool.and_eq_true,beq_iff_eq] at h
   rw[orI,if_pos h.1];exact orI_none h.2
theorem orI_some:∀{xs:List Int} {k:Nat},k<xs.length→(xs.take k).all (fun x=>x==0)=true→xs[k]?.getD 0≠0→orI xs=xs[k]?.getD 0
 | [],k,hk,_,_=>by simp at hk
 | x::xs,0,_,_,e=>by
   have e:x≠0:=by simpa using e
   rw[orI,if_neg e];simp
 | x::xs,k+1,hk,h,e=>by
   simp only[List.take_succ_cons,List.all_cons,Bool.and_eq_true,beq_iff_eq] at h
   rw[orI,if_pos h.1,List.getElem?_cons_succ]
   exact orI_some (by simpa using hk) h.2 (by simpa using e)
theorem all0_more {xs:List Int} {k:Nat} (hk:k<xs.length) (h:(xs.take k).all (fun x=>x==0)=true) (e:xs[k]?.getD 0=0):(xs.take (k+1)).all (fun x=>x==0)=true:=by
 rw[List.getElem?_eq_getElem hk] at e
 rw[List.take_add_one,List.all_append,h,List.getElem?_eq_getElem hk]
 simpa using e
theorem or_any (v:Value) (xs:List Int) (w:World) (h:Rd w v xs):
 Calls Tryz.prog 173 #[v] w fun e w'=>e= .returned (.int .i64 (orI xs))∧w=w':=by
 obtain⟨a,cap,n,HN,rfl,_,hnl,ha⟩:=h.opn
 have HA:=Lib.hid ha
 have HO:=Lib.hid (@orI_none xs)
 have HS:=Lib.hid (fun k (hk:k<xs.length)=>@orI_some xs k hk)
 have HM:=Lib.hid (fun k (hk:k<xs.length)=>@all0_more xs k hk)
 clear ha h
 generalize orI xs=r at *
 go_enter Tryz.func173,Tryz.ntmps173
 go_wp2
 go_loop [5,8] (fun _ i=>∃k:Nat,k≤n∧i= .int .i64 k∧Hid ((xs.take k).all (fun x=>x==0)=true)) (fun _ i=>n-(intOf i).toNat)
 case atStart=>exact⟨0,Nat.zero_le _,rfl,by simp[Hid]⟩
 case round=>
  obtain⟨k,hk,rfl,HT⟩:=hrel
  by_cases hlt:k<n
  · have hltI:(k:Int)<(n:Int):=by omega
    have hkx:k<xs.length:=by rw[HN.out];exact hlt
    obtain⟨b,off,rfl,hbs,hcs⟩:=HA.out (by omega)
    have hc0:=hcs k hlt
    have HS1:=Lib.hid (HS.out k hkx HT.out)
    have HM1:=Lib.hid (HM.out k hkx HT.out)
    clear hcs hkx
    generalize xs[k]?.getD 0=x at *
    by_cases he:x=0
    · have HE:=Lib.hid (HM1.out he)
      have heb:(x != 0)=false:=by simp[he]
      clear he
      go_wp2
      go_round
      case rel=>exact⟨k+1,by omega,by go_num,HE.out⟩
      case measure=>simp[intOf];omega
    · have HE:=Lib.hid (HS1.out he)
      have heb:(x != 0)=true:=by rw[bne_iff_ne];exact he
      clear he
      go_wp2
      go_ret
      exact⟨by rw[HE.out];rfl,rfl⟩
  · obtain rfl:k=n:=by omega
    have hall:=HT.out
    rw[←HN.out,List.take_length] at hall
    have HE:=Lib.hid (HO.out hall)
    clear hall
    go_wp2
    go_ret
    exact⟨by rw[HE.out];rfl,rfl⟩
theorem orI_fib (f g:Fib):decide (0<orI [cmpI f.a g.a,cmpI f.b g.b,cmpI f.l g.l,cmpI f.r g.r])=fibGt f g:=by
 have hc:∀a b:Int,(a=b∧cmpI a b=0)∨(a≠b∧cmpI a b≠0∧decide (0<cmpI a b)=decide (b<a)):=by
  intro a b
  unfold cmpI
  by_cases h1:a<b
  · rw[if_pos h1];right;refine⟨by omega,by omega,?_⟩
    rw[decide_eq_false (show¬(0:Int) < -1 by omega),decide_eq_false (show¬b<a by omega)]
  · rw[if_neg h1]
    by_cases h2:b<a
    · rw[if_pos h2];right;refine⟨by omega,by omega,?_⟩
      rw[decide_eq_true h2];rfl
    · rw[if_neg h2];left;exact⟨by omega,rfl⟩
 unfold fibGt
 rcases hc f.a g.a with ⟨e1,z1⟩ | ⟨e1,z1,d1⟩
 · rw[if_neg (by simpa using e1),orI,if_pos z1]
   rcases hc f.b g.b with ⟨e2,z2⟩ | ⟨e2,z2,d2⟩
   · rw[if_neg (by simpa using e2),orI,if_pos z2]
     rcases hc f.l g.l with ⟨e3,z3⟩ | ⟨e3,z3,d3⟩
     · rw[if_neg (by simpa using e3),orI,if_pos z3]
       rcases hc f.r g.r with ⟨e4,z4⟩ | ⟨e4,z4,d4⟩
       · rw[orI,if_pos z4,orI,e4,decide_eq_false (by omega),decide_eq_false (by omega)]
       · rw[orI,if_neg z4,d4]
     · rw[if_pos e3,orI,if_neg z3,d3]
   · rw[if_pos e2,orI,if_neg z2,d2]
 · rw[if_pos e1,orI,if_neg z1,d1]
def cmpF (f g:Fib):Int:=orI [cmpI f.a g.a,cmpI f.b g.b,cmpI f.l g.l,cmpI f.r g.r]
theorem cmpF_gt (f g:Fib):decide (0<cmpF f g)=fibGt f g:=orI_fib f g
theorem rd_alloc (w:World) (T:TypeId) (xs:List Int) (h:xs.length≤maxLen):Rd (w.alloc (.cells (ints xs).toArray T)) (.slice (some ⟨w.heap.size,0,none⟩) xs.length xs.length) xs:=by
 refine .inr ⟨w.heap.size,0,xs.length,rfl,Nat.le_refl _,h,by simp,fun j hj=> ?_⟩
 have hn:=heap_alloc_new w (.cells (ints xs).toArray T)
 rw[cell_of_row _ _ _ _ _ _ hn]
 simp[hj]
theorem blkc {w:World} {b j:Nat} {us:Array Value} {T:TypeId} {u:Value} (h:w.heap[b]?= some (.cells us T (0,0))) (hj:us[j]?= some u):w.cell? ⟨b,j,none⟩=some u:=by
 rw[cell_of_row _ _ _ _ _ _ h,hj]
theorem compareFibers_any (f g:Fib) (w:World):
 Calls Tryz.prog 130 #[fibV f,fibV g] w fun e w'=>e= .returned (.int .i64 (cmpF f g))∧Below w.heap.size w w':=by
 have HO:=Lib.hid (show cmpF f g=orI [cmpI f.a g.a,cmpI f.b g.b,cmpI f.l g.l,cmpI f.r g.r] from rfl)
 generalize cmpF f g=q at *
 obtain⟨a,b,l,r⟩:=f
 obtain⟨a',b',l',r'⟩:=g
 unfold fibV
 go_enter Tryz.func130,Tryz.ntmps130
 go_wp2
 have hA:=heap_alloc_new w (.cells #[.int .i64 a,.int .i64 b,.int .i64 l,.int .i64 r] 146)
 have hA2:=(heap_alloc_old _ (.cells #[.int .i64 a',.int .i64 b',.int .i64 l',.int .i64 r'] 146) (Array.getElem?_eq_some_iff.1 hA).1).trans hA
 have hB2:=heap_alloc_new (w.alloc (.cells #[.int .i64 a,.int .i64 b,.int .i64 l,.int .i64 r] 146)) (.cells #[.int .i64 a',.int .i64 b',.int .i64 l',.int .i64 r'] 146)
 rw[show(w.alloc (.cells #[.int .i64 a,.int .i64 b,.int .i64 l,.int .i64 r] 146)).heap.size=w.heap.size+1 by simp] at hB2
 have hal:=(Below.refl w.heap.size w).alloc (Nat.le_refl _) (.cells #[.int .i64 a,.int .i64 b,.int .i64 l,.int .i64 r] 146)
 have HB:=Lib.hid (hal.alloc hal.size (.cells #[.int .i64 a',.int .i64 b',.int .i64 l',.int .i64 r'] 146))
 clear hA hal
 generalize (w.alloc (.cells #[.int .i64 a,.int .i64 b,.int .i64 l,.int .i64 r] 146)).alloc (.cells #[.int .i64 a',.int .i64 b',.int .i64 l',.int .i64 r'] 146)=W at *
 have c0:=blkc hA2 (j:=0) rfl
 have c1:=blkc hA2 (j:=1) rfl
 have c2:=blkc hA2 (j:=2) rfl
 have c3:=blkc hA2 (j:=3) rfl
 have c4:=blkc hB2 (j:=0) rfl
 have c5:=blkc hB2 (j:=1) rfl
 have c6:=blkc hB2 (j:=2) rfl
 have c7:=blkc hB2 (j:=3) rfl
 clear hA2 hB2
 go_still_tail 20,(by kernel_rfl)
 still_call ((compare_any _ _ _).mono fun _ _ h=>⟨h.1,h.2.symm⟩)
 repeat still_step
 still_call ((compare_any _ _ _).mono fun _ _ h=>⟨h.1,h.2.symm⟩)
 repeat still_step
 still_call ((compare_any _ _ _).mono fun _ _ h=>⟨h.1,h.2.symm⟩)
 repeat still_step
 still_call ((compare_any _ _ _).mono fun _ _ h=>⟨h.1,h.2.symm⟩)
 repeat still_step
 refine wpStill_nil ?_
 go_wp2_with fail
 refine(or_any _ [cmpI a a',cmpI b b',cmpI l l',cmpI r r'] _ (show Rd (W.alloc (.cells #[.int .i64 (cmpI a a'),.int .i64 (cmpI b b'),.int .i64 (cmpI l l'),.int .i64 (cmpI r r')] 3)).drew (.slice (some ⟨W.heap.size,0,none⟩) 4 4) [cmpI a a',cmpI b b',cmpI l l',cmpI r r'] from(rd_alloc W 3 [cmpI a a',cmpI b b',cmpI l l',cmpI r r'] (by show 4≤maxLen;decide)).drew)).mono ?_
 rintro e w' ⟨rfl,rfl⟩
 go_wp2
 go_ret
 exact⟨by rw[HO.out];rfl,(HB.out.alloc HB.out.size _).drew⟩
end Go.Proofs.YtofcicomhnkocaaGreat
