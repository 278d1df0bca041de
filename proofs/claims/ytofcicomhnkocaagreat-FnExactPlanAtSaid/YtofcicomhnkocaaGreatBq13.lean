/- Joined: XPlb XCur XRwk XRtd. -/
import Derived.Test.YtofcicomhnkocaaGreatAls
import Derived.Test.YtofcicomhnkocaaGreatBq06
import Derived.Test.YtofcicomhnkocaaGreatBq10
import Derived.Laws.EntriesVeiled
import Derived.Lib.Join
import Derived.Shelf.SlSortCmp.WholeK
import Derived.Sort.WalkA
import Derived.Test.YtofcicomhnkocaaGreatSortShelf
import Derived.BigQuiet
import Derived.Deep.AppendLies
import Derived.Deep.DeepFit
import Derived.Deep.DeepMust
import Derived.Deep.LoopGhost
import Derived.Deep.QuietTactic
import Derived.Deep.RegionHeld3
import Derived.Handy
import Derived.Lib.Hide
import Derived.OpenShut
import Derived.StillTailTactics
import Derived.Test.YtofcicomhnkocaaGreatProg
import Derived.WalkKit
import Derived.WalkLawsBesides
import Derived.WalkSpells
import Derived.Lib.SlicesCompact
import Derived.Sort.OwnSortedInts
import Derived.Test.YtofcicomhnkocaaGreatShelf
import Derived.Test.YtofcicomhnkocaaGreatBq02
import Derived.Test.YtofcicomhnkocaaGreatBq12
import Derived.Test.YtofcicomhnkocaaGreatBq09
set_option linter.unusedVariables false
namespace Go.Proofs.YtofcicomhnkocaaGreat
set_option maxHeartbeats 6400000
open Go.RowKit Go.Sort
set_option maxRecDepth 100000
def plnD (p:Pln):List Dt:=[flt 1 strE p.n.ns,flt 4 fibE p.n.fs,rws 5 lgtD p.ls]
theorem newPln {w:World} {lo:Nat} {u1 u2 u3:Value} {p:Pln} {fp:List Nat} (h:PlnO w p (.agg #[u1,u2,u3]) fp) (hn:fp.Nodup) (hl:∀k∈fp,lo≤k):Newd w lo [u1,u2,u3] (plnD p):=by
 obtain⟨x1,x2,x3,f1,f2,f3,e,h1,h2,h3,rfl⟩:=h
 simp only[Value.agg.injEq,Array.mk.injEq,List.cons.injEq,and_true] at e
 obtain⟨rfl,rfl,rfl⟩:=e
 refine⟨[f1,f2,f3],rfl,rfl,fun j d u f e1 e2 e3=> ?_,?_,fun k hk=>hl k ?_⟩
 · match j with
   | 0=>cases e1;cases e2;cases e3;exact h1
   | 1=>cases e1;cases e2;cases e3;exact h2
   | 2=>cases e1;cases e2;cases e3;exact h3
   | j+3=>simp[plnD] at e1
 · simpa using hn
 · simpa using hk
theorem PlnO.kept {w w':World} {p:Pln} {v:Value} {fp:List Nat} (h:PlnO w p v fp) (hk:∀k∈fp,w'.heap[k]?= w.heap[k]?):PlnO w' p v fp:=by
 obtain⟨x1,x2,x3,f1,f2,f3,e,h1,h2,h3,rfl⟩:=h
 exact⟨x1,x2,x3,f1,f2,f3,e,h1.kept fun k h=>hk k (List.mem_append_left _ (List.mem_append_left _ h)),h2.kept fun k h=>hk k (List.mem_append_left _ (List.mem_append_right _ h)),h3.kept fun k h=>hk k (List.mem_append_right _ h),rfl⟩
/-! ### A plan in a variable -/
def PlK (w0 w:World) (R:Nat→Prop) (s b v:Value) (p:Pln):Prop:=∀w',Below w0.heap.size w0 w'→(∀k,w0.heap.size≤k→k<w.heap.size→ ¬R k→s.ownBlock≠some k→b.ownBlock≠some k→w'.heap[k]?= w.heap[k]?)→PlnR w' v p
theorem PlK.init {w0 w:World} {R:Nat→Prop} {s b v:Value} {p:Pln} (h:PlnR w0 v p):PlK w0 w R s b v p:=fun _ hb _=>h.behind hb
theorem PlK.rd {w0 w:World} {R:Nat→Prop} {s b v:Value} {p:Pln} (h:PlK w0 w R s b v p) (hb:Below w0.heap.size w0 w):PlnR w v p:=h w hb fun _ _ _ _ _ _=>rfl
theorem PlK.step {w0 w w':World} {R:Nat→Prop} {s b s' b' v:Value} {p:Pln} (h:PlK w0 w R s b v p) (hs:w.heap.size≤w'.heap.size) (hk:∀k,w0.heap.size≤k→k<w.heap.size→ ¬R k→s.ownBlock≠some k→b.ownBlock≠some k→w'.heap[k]?= w.heap[k]?)
 (h1:∀k,s'.ownBlock=some k→s.ownBlock=some k∨w.heap.size≤k) (h2:∀k,b'.ownBlock=some k→b.ownBlock=some k∨w.heap.size≤k):PlK w0 w' R s' b' v p:=fun w2 hb hk2=>
 h w2 hb fun k q1 q2 q3 q4 q5=>(hk2 k q1 (by omega) q3 (fun e=>(h1 k e).elim q4 (fun h=>by omega)) (fun e=>(h2 k e).elim q5 (fun h=>by omega))).trans (hk k q1 q2 q3 q4 q5)
theorem PlK.new {w0 w:World} {R:Nat→Prop} {base B:Nat} {s b u1 u2 u3:Value} {p:Pln} {fp:List Nat} (h:PlG w base B u1 u2 u3 p fp) (hs:NetSm p.n) (h0:w0.heap.size≤base) (hp:∀k,R k→k<base) (h1:∀k,s.ownBlock=some k→k<base) (h2:∀k,b.ownBlock=some k→k<base):PlK w0 w R s b (.agg #[u1,u2,u3]) p:=fun w' _ hk=>by
 obtain⟨fq,ho,-,hl⟩:=h.o
 refine(ho.kept fun k hkq=> ?_).rd hs
 have:=hl k hkq
 exact hk k (by omega) this.2 (fun e=>by have:=hp k e;omega) (fun e=>by have:=h1 k e;omega) (fun e=>by have:=h2 k e;omega)
/-! ### A row under way that keeps clear of some blocks -/
def GrwX (w:World) (base:Nat) (T:TypeId) (size:Nat) (v:Value) (n:Nat) (ds:List Dt) (X:Nat→Prop):Prop:=∃us fs,w.ownsRow base T size v n us∧GrP w base v us fs ds∧ ∀k∈fs.flatten,¬X k
theorem GrwX.grw {w:World} {base size n:Nat} {T:TypeId} {v:Value} {ds:List Dt} {X:Nat→Prop} (h:GrwX w base T size v n ds X):Grw w base T size v n ds:=by
 obtain⟨us,fs,r,g,-⟩:=h
 exact⟨us,fs,r,g.ul,g.fl,g.el,g.nd,g.lo,g.ow⟩
theorem GrwX.start {w:World} {base size g:Nat} (T:TypeId) (X:Nat→Prop) (hb:base≤g) (hg:w.heap[g]?= some (.cells #[] T (0,0))):GrwX w base T size (.slice (some ⟨g,0,none⟩) 0 0) 0 [] X:=
 ⟨[],[],⟨by simp,.inr ⟨g,0,#[],rfl,hb,hg,ξr _,by simp[maxLen],by simp,by simp⟩⟩,⟨rfl,rfl,(fun j d u f h=>by simp at h),List.nodup_nil,(fun k hk=>by simp at hk),(fun g _ hk=>by simp at hk)⟩,(fun k hk=>by simp at hk)⟩
theorem GrwX.kept {w w':World} {base size n:Nat} {T:TypeId} {v:Value} {ds:List Dt} {X Y:Nat→Prop} (h:GrwX w base T size v n ds X) (hk:∀k,base≤k→k<w.heap.size→(¬X k∨v.ownBlock=some k)→w'.heap[k]?= w.heap[k]?) (hY:∀k,k<w.heap.size→Y k→X k):GrwX w' base T size v n ds Y:=by
 obtain⟨us,fs,r,g,hx⟩:=h
 have hlt:=g.lt
 refine⟨us,fs,own_kept r fun q hq=>hk q (r.lt q hq).1 (r.lt q hq).2 (.inr hq),⟨g.ul,g.fl,fun j d u f e1 e2 e3=> ?_,g.nd,g.lo,g.ow⟩,fun k hkm hy=>hx k hkm (hY k (hlt k hkm) hy)⟩
 refine(g.el j d u f e1 e2 e3).kept fun k hkf=> ?_
 have hm:k∈fs.flatten:=List.mem_flatten.2 ⟨f,List.mem_of_getElem? e3,hkf⟩
 exact hk k (g.lo k hm) (hlt k hm) (.inl (hx k hm))
theorem wpList_growX {P:Program} {ops:Array Oper} {rest:List Oper} {o:Oper} {a:Act} {Q:Exit→Act→World→Prop} {w w2:World} (hgd:o.guard=none) (s x:Operand) (t e:TypeId)
 (ho:o.op= .call {callee:= .builtin .append,args:=#[s,x],argTypes:=#[t,t]}) (ht:P.underlying t=some (.slice e)) (z:Value) (size bytes:Nat)
 (hinfo:(P.info? e).map (fun i=>(i.zero,i.size,i.bytes))=some (some z,size,bytes)) (hzs:z.cells.size=size) (hsz:0<size) (hby:bytes≤1000)
 (base n:Nat) (v:Value) (ds ds':List Dt) (X:Nat→Prop) (hX:∀k,X k→k<w.heap.size) (hs:a.eval s=v) (hG:GrwX w base e size v n ds X) (hbb:base≤w.heap.size) (hb:Below w.heap.size w w2)
 (news:List Value) (hN:Newd w2 w.heap.size news ds') (hnl:news.length=size) (h1:∀u∈news,u.oneCell'=true) (hx:a.eval x= .slice (some ⟨w2.heap.size,0,none⟩) 1 1) (hn:n≤1000000)
 (h:∀v' w3,GrwX w3 base e size v' (n+1) (ds++ds') X→w2.grownBy w3 v.ownBlock→(∀g,v'.ownBlock=some g→v.ownBlock=some g∨w2.heap.size≤g)→wpList P ops Q rest (a.put o.dst v') w3):
 wpList P ops Q (o::rest) a (w2.alloc (.cells news.toArray e)):=by
 obtain⟨i0,hi,hz0,hz1,hz2⟩:=info_parts hinfo
 obtain⟨us,fs,r1,gp,hxx⟩:=hG
 have hr2:(w2.alloc (.cells news.toArray e)).ownsRow base e size v n us:=(own_kept r1 fun g hg=>hb.block g (r1.lt g hg).2).alloc _
 have hblk:=ξn w2 (.cells news.toArray e)
 refine wpList_append_lies _ hgd s x t ho base e i0 z size bytes ht hi hz0 hz1 hz2 hzs hsz v n us hs hr2 ⟨w2.heap.size,0,none⟩ 1 1 news hx (by omega) (fun j u hu=>World.news_of_block hblk j u (by simpa using hu)) h1 (by omega) (by unfold maxLen;omega) ?_ (ξs (ξs hbb hb.size) (by simp)) _ rfl ?_
 · have:(n+1)*bytes≤1000001*1000:=Nat.mul_le_mul (by omega) hby
   omega
 · intro g cap w3 g1 g2 g3 _
   have hgr:w2.grownBy w3 v.ownBlock:=⟨g2.os,g2.tape,g2.output,ξs (by simp) g2.size,fun k hk hne=>by
    rw[g2.block k (by simp;omega) hne];exact heap_alloc_old w2 _ hk⟩
   have hlie:v.ownBlock=some g∨w2.heap.size≤g:=by
    rcases g3 with e | e
    · exact .inl e
    · exact .inr (by rw[e];simp)
   refine h _ w3 ?_ hgr (fun g' hg'=> ?_)
   · obtain⟨fs',k1,k2,k3,k4,k5⟩:=hN
     have hv:=fun g hg=>(r1.lt g hg).2
     have hlt:∀k∈fs.flatten,k<w.heap.size:=gp.lt
     have hlt':∀k∈fs'.flatten,k<w2.heap.size:=Grw.flt k1 k2 k3
     have hkold:∀k∈fs.flatten,w3.heap[k]?= w.heap[k]?:=fun k hk=>by
      rw[hgr.block k (ξq (hlt k hk) hb.size) (fun e=>gp.ow k e.symm hk),hb.block k (hlt k hk)]
     have hknew:∀k∈fs'.flatten,w3.heap[k]?= w2.heap[k]?:=fun k hk=>hgr.block k (hlt' k hk) (fun e=>by have:=hv k e.symm;have:=k5 k hk;omega)
     have h2:=gp.ul
     have h3:=gp.fl
     refine⟨us++news,fs++fs',g1,⟨by simp[h2,k1],by simp[h3,k2],fun j d u f e1 e2 e3=> ?_,?_,fun k hk=> ?_,fun k hk hm=> ?_⟩,fun k hk hxk=> ?_⟩
     · by_cases hj:j<ds.length
       · rw[List.getElem?_append_left (by omega)] at e1 e2 e3
         exact(gp.el j d u f e1 e2 e3).kept fun k hk=>hkold k (List.mem_flatten.2 ⟨f,List.mem_of_getElem? e3,hk⟩)
       · rw[List.getElem?_append_right (by omega)] at e1 e2 e3
         rw[h2] at e2;rw[h3] at e3
         exact(k3 _ d u f e1 e2 e3).kept fun k hk=>hknew k (List.mem_flatten.2 ⟨f,List.mem_of_getElem? e3,hk⟩)
     · rw[List.flatten_append,List.nodup_append]
       exact⟨gp.nd,k4,fun a ha b hb e=>by have:=hlt a ha;have:=k5 b hb;omega⟩
     · rw[List.flatten_append,List.mem_append] at hk
       rcases hk with hk | hk
       · exact gp.lo k hk
       · have:=k5 k hk;omega
     · have:g=k:=by simpa[Value.ownBlock] using hk
       subst this
       rw[List.flatten_append,List.mem_append] at hm
       rcases hlie with e | e
       · rcases hm with hm | hm
         · exact gp.ow g e hm
         · have:=hv g e;have:=k5 g hm;omega
       · rcases hm with hm | hm
         · have:=hlt g hm;have:=hb.size;omega
         · have:=hlt' g hm;omega
     · rw[List.flatten_append,List.mem_append] at hk
       rcases hk with hk | hk
       · exact hxx k hk hxk
       · have:=k5 k hk;have:=hX k hxk;omega
   · have:g=g':=by simpa[Value.ownBlock] using hg'
     rw[←this];exact hlie
/-! ### The state of a planning: the plan in its variable, the plans so far, the blocked demands -/
structure PgS (w0 w:World) (R:Nat→Prop) (s b v:Value) (p:Pln) (m:Nat) (ps:List Pln) (bl:List Int):Prop where
 bel:Below w0.heap.size w0 w
 rsv:∀k,R k→w0.heap.size≤k∧k<w.heap.size
 pl:PlK w0 w R s b v p
 out:GrwX w w0.heap.size 75 3 s m (ps.flatMap plnD) (fun k=>R k∨b.ownBlock=some k)
 blo:Own w w0.heap.size b bl
 aps:∀g,s.ownBlock=some g→ ¬R g∧b.ownBlock≠some g
 apb:∀g,b.ownBlock=some g→ ¬R g
theorem PgS.own {w0 w:World} {R:Nat→Prop} {s b v:Value} {p:Pln} {m:Nat} {ps:List Pln} {bl:List Int} (h:PgS w0 w R s b v p m ps bl):∀k,s.ownBlock=some k→w0.heap.size≤k∧k<w.heap.size:=h.out.grw.own
theorem PgS.step {w0 w w':World} {R:Nat→Prop} {s b v:Value} {p:Pln} {m:Nat} {ps:List Pln} {bl:List Int} (h:PgS w0 w R s b v p m ps bl) (hb:Below w0.heap.size w0 w') (hs:w.heap.size≤w'.heap.size) (hk:∀k,k<w.heap.size→ ¬R k→w'.heap[k]?= w.heap[k]?):PgS w0 w' R s b v p m ps bl:=
 ⟨hb,fun k hr=>⟨(h.rsv k hr).1,by have:=(h.rsv k hr).2;omega⟩,h.pl.step hs (fun k _ q1 q2 _ _=>hk k q1 q2) (fun _ h=> .inl h) (fun _ h=> .inl h),
  h.out.kept (fun k _ q1 q2=>hk k q1 (q2.elim (fun e hr=>e (.inl hr)) (fun e=>(h.aps k e).1))) (fun _ _ h=>h),h.blo.kept fun k hk2=>hk k (h.blo.lt k hk2).2 (h.apb k hk2),h.aps,h.apb⟩
theorem PgS.below {w0 w w':World} {R:Nat→Prop} {s b v:Value} {p:Pln} {m:Nat} {ps:List Pln} {bl:List Int} (h:PgS w0 w R s b v p m ps bl) (hb:Below w.heap.size w w'):PgS w0 w' R s b v p m ps bl:=
 h.step (h.bel.trans (hb.mono h.bel.size)) hb.size fun k hk _=>hb.block k hk
theorem PgS.put {w0 w w1 w':World} {R:Nat→Prop} {s b v u1 u2 u3:Value} {p p':Pln} {m B:Nat} {ps:List Pln} {bl:List Int} {fp:List Nat} (h:PgS w0 w R s b v p m ps bl) (hb1:Below w.heap.size w w1) (hG:PlG w1 w.heap.size B u1 u2 u3 p' fp) (hsm:NetSm p'.n) (hb:Below w0.heap.size w0 w') (hs:w1.heap.size=w'.heap.size) (hk:∀k,¬R k→w'.heap[k]?= w1.heap[k]?):PgS w0 w' R s b (.agg #[u1,u2,u3]) p' m ps bl:=by
 have h1:=h.below hb1
 have h2:=h1.step hb (Nat.le_of_eq hs) fun k _ hr=>hk k hr
 refine⟨h2.bel,h2.rsv,?_,h2.out,h2.blo,h2.aps,h2.apb⟩
 have hp:PlK w0 w1 R s b (.agg #[u1,u2,u3]) p':=PlK.new hG hsm h.bel.size (fun k hr=>(h.rsv k hr).2) (fun k hk=>(h.own k hk).2) (fun k hk=>(h.blo.lt k hk).2)
 exact hp.step (Nat.le_of_eq hs) (fun k _ _ q2 _ _=>hk k q2) (fun _ h=> .inl h) (fun _ h=> .inl h)
theorem PgS.push {w0 w w':World} {R:Nat→Prop} {s b b' v:Value} {p:Pln} {m:Nat} {ps:List Pln} {bl bl':List Int} (h:PgS w0 w R s b v p m ps bl) (ho:Own w' w0.heap.size b' bl') (hg:w.grownBy w' b.ownBlock) (hl:∀g,b'.ownBlock=some g→b.ownBlock=some g∨w.heap.size≤g):PgS w0 w' R s b' v p m ps bl':=by
 have hb:Below w0.heap.size w0 w':=h.bel.grown hg h.bel.size fun q hq=>(h.blo.lt q hq).1
 refine⟨hb,fun k hr=>⟨(h.rsv k hr).1,by have:=(h.rsv k hr).2;have:=hg.size;omega⟩,h.pl.step hg.size (fun k _ q1 _ _ q2=>hg.block k q1 fun e=>q2 e.symm) (fun _ h=> .inl h) hl,h.out.kept (fun k _ q1 q2=>hg.block k q1 fun e=> ?_) (fun k hk hy=>hy.imp id fun e=>(hl k e).elim id fun h=>by omega),ho,fun g e=>⟨(h.aps g e).1,fun e2=> ?_⟩,fun g e hr=> ?_⟩
 · rcases q2 with q2 | q2
   · exact q2 (.inr e.symm)
   · exact(h.aps k q2).2 e.symm
 · rcases hl g e2 with e2 | e2
   · exact(h.aps g e).2 e2
   · have:=(h.own g e).2;omega
 · rcases hl g e with e2 | e2
   · exact h.apb g e2 hr
   · have:=(h.rsv g hr).2;omega
theorem PgS.grow {w0 w w2 w':World} {R:Nat→Prop} {s s' b v:Value} {p q:Pln} {m:Nat} {ps:List Pln} {bl:List Int} (h:PgS w0 w R s b v p m ps bl) (hb:Below w.heap.size w w2) (ho:GrwX w' w0.heap.size 75 3 s' (m+1) (ps.flatMap plnD++plnD q) (fun k=>R k∨b.ownBlock=some k)) (hg:w2.grownBy w' s.ownBlock) (hl:∀g,s'.ownBlock=some g→s.ownBlock=some g∨w2.heap.size≤g):PgS w0 w' R s' b v p (m+1) (ps++[q]) bl:=by
 have h2:=h.below hb
 have hbb:Below w0.heap.size w0 w':=h2.bel.grown hg h2.bel.size fun q hq=>(h2.own q hq).1
 refine⟨hbb,fun k hr=>⟨(h2.rsv k hr).1,by have:=(h2.rsv k hr).2;have:=hg.size;omega⟩,h2.pl.step hg.size (fun k _ q1 _ q2 _=>hg.block k q1 fun e=>q2 e.symm) hl (fun _ h=> .inl h),?_,h2.blo.kept fun k hk=>hg.block k (h2.blo.lt k hk).2 fun e=>(h2.aps k e.symm).2 hk,fun g e=>⟨fun hr=> ?_,fun e2=> ?_⟩,h2.apb⟩
 · rw[List.flatMap_append];simpa using ho
 · rcases hl g e with e2 | e2
   · exact(h2.aps g e2).1 hr
   · have:=(h2.rsv g hr).2;omega
 · rcases hl g e with e3 | e3
   · exact(h2.aps g e3).2 e2
   · have:=(h2.blo.lt g e2).2;omega
def PgB (w0 w:World) (R:Nat→Prop) (bp:Nat) (s b:Value) (p:Pln) (m:Nat) (ps:List Pln) (bl:List Int):Prop:=R bp∧ ∃a1 m1 c1 a2 m2 c2 a3 m3 c3,w.heap[bp]?= some (.cells #[.slice a1 m1 c1,.slice a2 m2 c2,.slice a3 m3 c3] 75 (0,0))∧PgS w0 w R s b (.agg #[.slice a1 m1 c1,.slice a2 m2 c2,.slice a3 m3 c3]) p m ps bl
theorem PgB.below {w0 w w':World} {R:Nat→Prop} {bp m:Nat} {s b:Value} {p:Pln} {ps:List Pln} {bl:List Int} (h:PgB w0 w R bp s b p m ps bl) (hb:Below w.heap.size w w'):PgB w0 w' R bp s b p m ps bl:=by
 obtain⟨h0,a1,m1,c1,a2,m2,c2,a3,m3,c3,h1,h2⟩:=h
 exact⟨h0,a1,m1,c1,a2,m2,c2,a3,m3,c3,kept_o' h1 hb,h2.below hb⟩
theorem PgB.bel {w0 w:World} {R:Nat→Prop} {bp m:Nat} {s b:Value} {p:Pln} {ps:List Pln} {bl:List Int} (h:PgB w0 w R bp s b p m ps bl):Below w0.heap.size w0 w:=by
 obtain⟨h0,a1,m1,c1,a2,m2,c2,a3,m3,c3,h1,h2⟩:=h
 exact h2.bel
theorem PgB.put {w0 w w1:World} {R:Nat→Prop} {bp m B n1 d1 n2 d2 n3 d3:Nat} {s b:Value} {e1 e2 e3:Option Addr} {p p':Pln} {ps:List Pln} {bl:List Int} {fp:List Nat} (h:PgB w0 w R bp s b p m ps bl) (hb1:Below w.heap.size w w1) (hG:PlG w1 w.heap.size B (.slice e1 n1 d1) (.slice e2 n2 d2) (.slice e3 n3 d3) p' fp) (hsm:NetSm p'.n):
 PgB w0 (((w1.setCell ⟨bp,0,none⟩ (.slice e1 n1 d1)).setCell ⟨bp,1,none⟩ (.slice e2 n2 d2)).setCell ⟨bp,2,none⟩ (.slice e3 n3 d3)) R bp s b p' m ps bl:=by
 obtain⟨h0,a1,m1,c1,a2,m2,c2,a3,m3,c3,h1,h2⟩:=h
 obtain⟨q1,q2,q3,q4⟩:=set3_facts (.slice e1 n1 d1) (.slice e2 n2 d2) (.slice e3 n3 d3) (kept_o' h1 hb1)
 exact⟨h0,e1,n1,d1,e2,n2,d2,e3,n3,d3,q1,h2.put hb1 hG hsm (q4 _ _ (h2.rsv _ h0).1 (h2.bel.trans (hb1.mono h2.bel.size))) q3.symm fun k hk=>q2 k fun e=>hk (e▸h0)⟩
theorem PgB.push {w0 w w':World} {R:Nat→Prop} {bp m:Nat} {s b b':Value} {p:Pln} {ps:List Pln} {bl bl':List Int} (h:PgB w0 w R bp s b p m ps bl) (ho:Own w' w0.heap.size b' bl') (hg:w.grownBy w' b.ownBlock) (hl:∀g,b'.ownBlock=some g→b.ownBlock=some g∨w.heap.size≤g):PgB w0 w' R bp s b' p m ps bl':=by
 obtain⟨h0,a1,m1,c1,a2,m2,c2,a3,m3,c3,h1,h2⟩:=h
 exact⟨h0,a1,m1,c1,a2,m2,c2,a3,m3,c3,(hg.block bp (h2.rsv _ h0).2 fun e=>h2.apb bp e.symm h0).trans h1,h2.push ho hg hl⟩
theorem PgB.grow {w0 w w2 w':World} {R:Nat→Prop} {bp m:Nat} {s s' b:Value} {p q:Pln} {ps:List Pln} {bl:List Int} (h:PgB w0 w R bp s b p m ps bl) (hb:Below w.heap.size w w2) (ho:GrwX w' w0.heap.size 75 3 s' (m+1) (ps.flatMap plnD++plnD q) (fun k=>R k∨b.ownBlock=some k)) (hg:w2.grownBy w' s.ownBlock) (hl:∀g,s'.ownBlock=some g→s.ownBlock=some g∨w2.heap.size≤g):PgB w0 w' R bp s' b p (m+1) (ps++[q]) bl:=by
 obtain⟨h0,a1,m1,c1,a2,m2,c2,a3,m3,c3,h1,h2⟩:=h
 exact⟨h0,a1,m1,c1,a2,m2,c2,a3,m3,c3,(hg.block bp (ξq (h2.rsv _ h0).2 hb.size) fun e=>(h2.aps bp e.symm).1 h0).trans (kept_o' h1 hb),h2.grow hb ho hg hl⟩
theorem PgB.start {w0 w3:World} {a1 a2:Option Addr} {m1 c1 m2 c2:Nat} {n:Net} (hb:Below w0.heap.size w0 w3) (hp:PlnR w0 (.agg #[.slice a1 m1 c1,.slice a2 m2 c2,.slice none 0 0]) ⟨n,[]⟩):
 PgB w0 (((w3.alloc (.cells #[] 75)).alloc (.cells #[] 3)).alloc (.cells #[.slice a1 m1 c1,.slice a2 m2 c2,.slice none 0 0] 75)) (fun k=>k=w3.heap.size+1+1) (w3.heap.size+1+1) (.slice (some ⟨w3.heap.size,0,none⟩) 0 0) (.slice (some ⟨w3.heap.size+1,0,none⟩) 0 0) ⟨n,[]⟩ 0 [] []:=by
 obtain⟨q0,q1,q2,q3,q4⟩:=box3_facts w3 (.cells #[] 75) (.cells #[] 3) (.cells #[.slice a1 m1 c1,.slice a2 m2 c2,.slice none 0 0] 75)
 have hz:=hb.size
 refine⟨rfl,_,_,_,_,_,_,_,_,_,q3,hb.trans (q0.mono hz),fun k hk=>by subst hk;omega,PlK.init hp,GrwX.start _ _ (by omega) q1,.inr ⟨w3.heap.size+1,0,0,#[],rfl,by omega,⟨_,q2⟩,ξr _,by simp[maxLen],by simp,by simp[ints]⟩,fun g hg=> ?_,fun g hg=> ?_⟩
 · have:w3.heap.size=g:=ξo hg
   subst this
   exact⟨(show¬(w3.heap.size=w3.heap.size+1+1) by omega),fun e=>(by have:w3.heap.size+1=w3.heap.size:=ξo e;omega)⟩
 · have:w3.heap.size+1=g:=ξo hg
   subst this
   show¬(w3.heap.size+1=w3.heap.size+1+1)
   omega
open Go.RowKit
def bb:Value→Option Nat
 | .slice (some a) (_+1) _=>some a.block
 | _=>none
open Go.RowKit Go.Sort Go.Shelf
theorem flatv_at {α β:Type} {F:α→List β} {k:Nat} (hF:∀a,(F a).length=k):∀(xs:List α) (i r:Nat),r<k→(xs.flatMap F)[i*k+r]?= (xs[i]?).bind fun a=>(F a)[r]?
 | [],i,r,_=>by simp
 | a::xs,0,r,h=>by
   rw[List.flatMap_cons,List.getElem?_append_left (by rw[hF];omega)]
   simp
 | a::xs,i+1,r,h=>by
   rw[List.flatMap_cons,List.getElem?_append_right (by rw[hF,Nat.add_mul];omega),hF,show(i+1)*k+r-k=i*k+r by rw[Nat.add_mul];omega,flatv_at hF xs i r h]
   simp
theorem flatv_length {α β:Type} {F:α→List β} {k:Nat} (hF:∀a,(F a).length=k) (xs:List α):(xs.flatMap F).length=xs.length*k:=by
 induction xs with
 | nil=>simp
 | cons a xs ih=>rw[List.flatMap_cons,List.length_append,ih,hF,List.length_cons,Nat.add_mul];omega
section
variable {α : Type} [Inhabited α] {enc : α → List Value} {k : Nat}
theorem flatK_list (hk:∀x,(enc x).length=k) (hk0:0<k) (d:Array α):(flatK enc k d).toList=d.toList.flatMap enc:=by
 apply List.ext_getElem?
 intro t
 by_cases ht:t<d.size*k
 · have h1:=get_flatK enc k d t ht
   have hi:t/k<d.size:=Nat.div_lt_of_lt_mul (by rw[Nat.mul_comm];exact ht)
   have hr:t%k<k:=Nat.mod_lt _ hk0
   have e:t=t/k*k+t%k:=by rw[Nat.mul_comm];exact(Nat.div_add_mod t k).symm
   rw[Array.getElem?_toList]
   have h2:(flatK enc k d)[t]?= some ((flatK enc k d)[t]!):=by
    rw[getElem!_pos _ t (by simpa using ht)];exact Array.getElem?_eq_getElem (by simpa using ht)
   rw[h2,h1]
   conv=>rhs;rw[e]
   rw[flatv_at hk d.toList (t/k) (t%k) hr,Array.getElem?_toList,Array.getElem?_eq_getElem hi,Option.bind_some]
   rw[getElem!_pos d (t/k) hi]
   have hl:t%k<(enc d[t/k]).length:=by rw[hk];exact hr
   rw[ξg hl,getElem!_pos (enc d[t/k]) (t%k) hl]
 · rw[List.getElem?_eq_none (by simp;omega),List.getElem?_eq_none (by rw[flatv_length hk];simp;omega)]
theorem row_holdsK {w:World} {base n g cap:Nat} {T:TypeId} {d:Array α} (hk:∀x,(enc x).length=k) (hk0:0<k) (h:w.ownsRow base T k (.slice (some ⟨g,0,none⟩) n cap) n (d.toList.flatMap enc)):d.size=n∧HoldsK enc k w g 0 d∧g<w.heap.size∧base≤g:=by
 have hn:d.size=n:=by
  have:=h.1
  rw[flatv_length hk] at this
  have:=Nat.eq_of_mul_eq_mul_right hk0 this
  simpa using this
 rcases h.2 with ⟨e,_⟩ | ⟨g',cap',cur,e,q1,q2,q3,q4,q5,q6⟩
 · cases e
 · simp only[Value.slice.injEq,Option.some.injEq,Addr.mk.injEq,and_true,true_and] at e
   obtain⟨rfl,rfl⟩:=e
   refine⟨hn,fun t ht=> ?_,(ξa q2).1,q1⟩
   have ht':t<n*k:=by rw[←hn];simpa using ht
   refine⟨?_,ξz _ _ _ _ _ q2⟩
   rw[cell_of_row _ _ _ _ _ _ q2]
   have h2:(flatK enc k d)[t]?= some ((flatK enc k d)[t]!):=by
    rw[getElem!_pos _ t (by simpa using ht)];exact Array.getElem?_eq_getElem (by simpa using ht)
   show cur[0+t]?= some (id (flatK enc k d)[t]!)
   rw[id,←h2,←Array.getElem?_toList (xs:=flatK enc k d),flatK_list hk hk0,←q6,List.getElem?_take_of_lt ht',Nat.zero_add,Array.getElem?_toList]
theorem row_sortK {w:World} {base n g cap:Nat} {T:TypeId} {d:Array α} (hk:∀x,(enc x).length=k) (hk0:0<k) (h:w.ownsRow base T k (.slice (some ⟨g,0,none⟩) n cap) n (d.toList.flatMap enc)) (d':Array α) (hs:d'.size=d.size) (m:Nat) (os:Array Obj):
 (sortWorldK enc k w g 0 m d' os).ownsRow base T k (.slice (some ⟨g,0,none⟩) n cap) n (d'.toList.flatMap enc)∧w.grownBy (sortWorldK enc k w g 0 m d' os) (some g):=by
 have hn:=(row_holdsK hk hk0 h).1
 rcases h.2 with ⟨e,_⟩ | ⟨g',cap',cur,e,q1,q2,q3,q4,q5,q6⟩
 · cases e
 · simp only[Value.slice.injEq,Option.some.injEq,Addr.mk.injEq,and_true,true_and] at e
   obtain⟨rfl,rfl⟩:=e
   have hnk:n*k≤cap*k:=Nat.mul_le_mul_right k q3
   refine⟨⟨by rw[flatv_length hk];simp[hs,hn],.inr ⟨g,cap,putCells id 0 (flatK enc k d') cur,rfl,q1,?_,q3,q4,by simp[putCells,q5],?_⟩⟩,⟨rfl,rfl,rfl,?_,fun j hj hne=> ?_⟩⟩
   · unfold sortWorldK putRowK putRow
     rw[heap_grow_old _ _ (by simp[mapBlock,Sort.ahead];exact(ξa q2).1)]
     simp[mapBlock,Sort.ahead,Array.getElem?_modify,q2,onCells]
   · rw[←flatK_list hk hk0]
     apply List.ext_getElem?
     intro t
     by_cases ht:t<n*k
     · rw[List.getElem?_take_of_lt ht,Array.getElem?_toList,Array.getElem?_toList]
       have hts:t<(flatK enc k d').size:=by rw[size_flatK,hs,hn];exact ht
       have htc:t<cur.size:=by omega
       rw[Array.getElem?_eq_getElem hts]
       simp only[putCells,Array.getElem?_mapIdx,Array.getElem?_eq_getElem htc,Option.map_some]
       rw[if_pos ⟨Nat.zero_le _,by omega⟩,Nat.sub_zero,getElem!_pos _ t hts];rfl
     · rw[List.getElem?_take_eq_none (by omega),List.getElem?_eq_none (by simp[hs,hn];omega)]
   · unfold sortWorldK putRowK putRow
     simp[mapBlock,Sort.ahead]
   · unfold sortWorldK putRowK putRow
     rw[heap_grow_old _ _ (by simpa[mapBlock,Sort.ahead] using hj)]
     have:g≠j:=fun e=>hne (by rw[e])
     simp[mapBlock,Sort.ahead,Array.getElem?_modify,this]
end
structure RtEl (w:World) (blk:Nat) (n:Net) where
 fb:List Int
 a:Option Addr
 c:Nat
 rd:Rd w (.slice a fb.length c) fb
 apt:∀g,(Value.slice a fb.length c).ownBlock=some g→g≠blk
 len:fb.length≤1000
 inn:InNet n fb
instance (w:World) (blk:Nat) (n:Net):Inhabited (RtEl w blk n):=⟨⟨[],none,0,.inl ⟨rfl,rfl⟩,(fun g h=>by cases h),by simp,(fun k hk=>by simp at hk)⟩⟩
def encR (fr:Int) {w:World} {blk:Nat} {n:Net} (x:RtEl w blk n):List Value:=[.int .i64 fr,.slice x.a x.fb.length x.c]
theorem encR_len (fr:Int) {w:World} {blk:Nat} {n:Net} (x:RtEl w blk n):(encR fr x).length=2:=rfl
theorem encR_one (fr:Int) {w:World} {blk:Nat} {n:Net} (x:RtEl w blk n):∀v∈encR fr x,v.oneCell'=true:=fun v hv=>by
 simp[encR] at hv
 rcases hv with rfl | rfl <;> rfl
def cfR (n:Net) {w:World} {blk:Nat} (x y:RtEl w blk n):Int:=cmpR n x.fb y.fb
theorem cfR_swo (n:Net) (w:World) (blk:Nat):SWO (ltOf (cfR n (w:=w) (blk:=blk))):=by
 refine⟨fun x=> ?_,fun x y z h1 h2=> ?_,fun x y z h1 h2=> ?_⟩
 · unfold ltOf cfR;rw[cmpR_self];rfl
 · unfold ltOf cfR at *
   rw[decide_eq_true_eq] at *
   exact cmpR_trans h1 h2
 · unfold ltOf cfR at *
   rw[decide_eq_false_iff_not] at *
   by_cases e1:x.fb=y.fb
   · rw[e1];exact h2
   · by_cases e2:y.fb=z.fb
     · rw[←e2];exact h1
     · have h3:=cmpR_tot h1 e1
       have h4:=cmpR_tot h2 e2
       exact cmpR_asym (cmpR_trans h4 h3)
theorem rt_els {w:World} {blk:Nat} {n:Net} (fr:Int):∀{ps:List (List Int × Value)},(∀p∈ps,Rd w p.2 p.1∧(∀g,p.2.ownBlock=some g→g≠blk)∧p.1.length≤1000∧InNet n p.1)→ ∃L:List (RtEl w blk n),rcs fr ps=L.flatMap (encR fr)∧ps.map Prod.fst=L.map (·.fb)∧L.length=ps.length
 | [],_=>⟨[],rfl,rfl,rfl⟩
 | p::ps,h=>by
   obtain⟨L,h1,h2,h3⟩:=rt_els fr (ps:=ps) (fun q hq=>h q (List.mem_cons_of_mem _ hq))
   obtain⟨r1,r2,r3,r4⟩:=h p (by simp)
   obtain⟨fb,v⟩:=p
   obtain⟨a,c,n',HN,e,-⟩:=r1.opn
   have hn:n'=fb.length:=HN.out.symm
   subst hn
   dsimp only at *
   subst e
   refine⟨⟨fb,a,c,r1,r2,r3,r4⟩::L,?_,by simp[h2],by simp[h3]⟩
   unfold rcs at h1 ⊢
   rw[List.flatMap_cons,List.flatMap_cons,h1];rfl
def els_back {w:World} {blk:Nat} {n:Net} (L:List (RtEl w blk n)):List (List Int × Value):=L.map fun x=>(x.fb,.slice x.a x.fb.length x.c)
theorem els_rcs {w:World} {blk:Nat} {n:Net} (fr:Int) (L:List (RtEl w blk n)):rcs fr (els_back L)=L.flatMap (encR fr):=by
 unfold rcs els_back
 rw[List.flatMap_map];rfl
theorem box6_facts (w:World) (A B C D E F:Obj):Below w.heap.size w ((((((w.alloc A).alloc B).alloc C).alloc D).alloc E).alloc F)∧((((((w.alloc A).alloc B).alloc C).alloc D).alloc E).alloc F).heap[w.heap.size]?= some A∧((((((w.alloc A).alloc B).alloc C).alloc D).alloc E).alloc F).heap[w.heap.size+1]?= some B∧((((((w.alloc A).alloc B).alloc C).alloc D).alloc E).alloc F).heap[w.heap.size+1+1]?= some C∧((((((w.alloc A).alloc B).alloc C).alloc D).alloc E).alloc F).heap[w.heap.size+1+1+1]?= some D∧((((((w.alloc A).alloc B).alloc C).alloc D).alloc E).alloc F).heap[w.heap.size+1+1+1+1]?= some E∧((((((w.alloc A).alloc B).alloc C).alloc D).alloc E).alloc F).heap[w.heap.size+1+1+1+1+1]?= some F∧((((((w.alloc A).alloc B).alloc C).alloc D).alloc E).alloc F).heap.size=w.heap.size+1+1+1+1+1+1:=by
 obtain⟨b3,g0,g1,g2,hz⟩:=box3_facts w A B C
 obtain⟨b6,g3,g4,g5,hz6⟩:=box3_facts (((w.alloc A).alloc B).alloc C) D E F
 rw[hz] at g3 g4 g5 hz6
 exact⟨b3.trans (b6.mono b3.size),kept_o' g0 b6,kept_o' g1 b6,kept_o' g2 b6,g3,g4,g5,hz6⟩
def RtsP (n:Net) (fr tn:Int) (w:World) (e:Ending) (w':World):Prop:=∃v ps,e= .returned v∧w'.ownsRow w.heap.size 82 2 v ps.length (rcs fr ps)∧v.ownBlock≠none∧(∀p∈ps,Rd w' p.2 p.1)∧(ps.map Prod.fst).Perm (extR n tn (n.ns.length+1) fr [fr] [])∧(ps.map Prod.fst).Pairwise (fun a b=>¬cmpR n b a<0)∧Below w.heap.size w w'
theorem extR_inn {n:Net} {tn fr:Int} {f:Nat} {r:List Int} (h:r∈extR n tn f fr [fr] []):InNet n r:=by
 have key:∀(f:Nat) (t:Int) (seen fb:List Int),(∀x∈fb,0≤x∧x<n.fs.length)→ ∀r∈extR n tn f t seen fb,∀x∈r,0≤x∧x<n.fs.length:=by
  intro f
  induction f with
  | zero=>intro t seen fb _ r hr;simp[extR] at hr
  | succ f ih=>
    intro t seen fb hfb r hr
    rw[extR] at hr
    split at hr
    · rw[List.mem_singleton] at hr;subst hr;exact hfb
    · obtain⟨i,hi,hm⟩:=List.mem_flatMap.1 hr
      have hi:=List.mem_range.1 hi
      split at hm
      · refine ih _ _ _ (fun x hx=> ?_) r hm
        rcases List.mem_append.1 hx with hx | hx
        · exact hfb x hx
        · rw[List.mem_singleton.1 hx];omega
      · cases hm
 intro k hk
 rw[ξg hk]
 exact key f fr [fr] [] (fun x hx=>by cases hx) r h _ (List.getElem_mem hk)
theorem extR_len9 {n:Net} {tn:Int} :∀(f:Nat) (t:Int) (seen fb:List Int),∀r∈extR n tn f t seen fb,r.length≤fb.length+f
 | 0,t,seen,fb,r,h=>by simp[extR] at h
 | f+1,t,seen,fb,r,h=>by
   rw[extR] at h
   split at h
   · rw[List.mem_singleton] at h;subst h;omega
   · obtain⟨i,hi,hm⟩:=List.mem_flatMap.1 h
     split at hm
     · have:=extR_len9 f _ _ _ r hm
       rw[List.length_append] at this
       simp at this;omega
     · cases hm
theorem sortFound_any {wA w9:World} {q0 q1 q2 q3 q4:Nat} {fr tn:Int} {u1 u2 v:Value} {n:Net} {ps:List (List Int × Value)} (hA:ExtA wA wA.heap.size q0 q1 q2 q3 q4 fr tn u1 u2 n) (hL:LenOk n) (hE:RbE w9 q0 q1 q2 q3 q4 fr tn u1 u2) (hS:RbS w9 wA.heap.size q0 q1 q2 q3 q4 fr v ps) (hB:Below wA.heap.size wA w9)
 (hp:ps.map Prod.fst=extR n tn (n.ns.length+1) fr [fr] []):
 Calls Tryz.prog 240 #[v,.func (.func 241) #[] #[ptr q3]] w9 fun e w'=>e= .returned (.tuple #[])∧RtsP n fr tn wA (.returned v) w'∧w9.grownBy w' v.ownBlock:=by
 have hnl:=hA.nl
 have hlen:ps.length≤1000000000000:=by
  have h1:=congrArg List.length hp
  rw[List.length_map] at h1
  have h2:=extR_bd hA.fl (tn:=tn) (n.ns.length+1) fr [fr] []
  have h3:14 ^ (n.ns.length+1)≤14 ^ 9:=Nat.pow_le_pow_right (by omega) (by omega)
  have h4:(14:Nat) ^ 9≤1000000000000:=by decide
  omega
 obtain⟨g,cap,rfl⟩:∃g cap,v= .slice (some ⟨g,0,none⟩) ps.length cap:=by
  rcases hS.row.2 with ⟨e,_⟩ | ⟨g,cap,cur,e,_⟩
  · exact absurd (by rw[e];rfl) hS.some_
  · exact⟨g,cap,e⟩
 have hvq:=hS.vq g rfl
 have hg9:=hS.row.lt g rfl
 obtain⟨L,e1,e2,e3⟩:=rt_els (w:=w9) (blk:=g) (n:=n) fr (ps:=ps) (fun p hpm=>by
  obtain⟨k1,k2⟩:=hS.els p hpm
  have hm:p.1∈extR n tn (n.ns.length+1) fr [fr] []:=by rw[←hp];exact List.mem_map_of_mem hpm
  have hl:=extR_len9 _ _ _ _ _ hm
  simp at hl
  exact⟨k1,fun q hq e=>k2 q hq (.inr (by rw[e];rfl)),by omega,extR_inn hm⟩)
 have hrow:w9.ownsRow wA.heap.size 82 2 (.slice (some ⟨g,0,none⟩) ps.length cap) ps.length (L.toArray.toList.flatMap (encR fr)):=by
  show w9.ownsRow _ _ _ _ _ (L.flatMap (encR fr))
  rw[←e1];exact hS.row
 obtain⟨hn,hH,hlt,-⟩:=row_holdsK (encR_len fr) (by omega) hrow
 have hcmp:CmpLays Tryz.prog 241 #[ptr q3] (encR fr (w:=w9) (blk:=g) (n:=n)) 2 (cfR n) g 0 L.toArray.size w9:=fun m os d' hd' x y=>by
  have hgr:=(row_sortK (encR_len fr) (by omega) hrow d' hd' m os).2
  have hcell:∀p:Addr,p.block<w9.heap.size→p.block≠g→(sortWorldK (encR fr) 2 w9 g 0 m d' os).cell? p=w9.cell? p:=fun p h1 h2=>World.cell?_of_block (hgr.block p.block h1 (fun e=>h2 (ξo e)))
  have hrd:∀z:RtEl w9 g n,Rd (sortWorldK (encR fr) 2 w9 g 0 m d' os) (.slice z.a z.fb.length z.c) z.fb:=fun z=>by
   rcases z.rd with h | ⟨b,off,c',hv,h1,h2,h3,h4⟩
   · exact .inl h
   · have hb:b≠g:=z.apt b (by rw[hv];rfl)
     exact .inr ⟨b,off,c',hv,h1,h2,ξq h3 hgr.size,fun j hj=>by rw[hcell _ h3 hb];exact h4 j hj⟩
  have hbw:Below wA.heap.size wA (sortWorldK (encR fr) 2 w9 g 0 m d' os):=
   ⟨hgr.os.trans hB.os,hgr.tape.trans hB.tape,hgr.output.trans hB.output,ξs hB.size hgr.size,fun k hk=>by rw[hgr.block k (ξq hk hB.size) (fun e=>by have e:=ξo e;have:=hg9.1;omega),hB.block k hk]⟩
  exact sortRoutes_any u1 u2 _ _ n fr x.fb y.fb q3 _ ((hcell _ (World.block_lt_of_cell? _ _ hE.c3) (fun e=>hvq.2.2.2.1 e.symm)).trans hE.c3) ((hcell _ (World.block_lt_of_cell? _ _ hE.c5) (fun e=>hvq.2.2.2.1 e.symm)).trans hE.c5) (hA.net.behind hbw) hA.u1s (hrd x) (hrd y) x.len y.len x.inn y.inn hL
 have hn2:L.toArray.size=ps.length:=hn
 refine((AnyQ.slices_SortFunc Tryz.sortRoute 2 Tryz.isAgg82 Tryz.sizeOf82 (encR fr) (encR_len fr) (encR_one fr) (cfR n) (cfR_swo n w9 g) 241 #[ptr q3] g 0 cap L.toArray w9 (enters_of Tryz.func241 (by kernel_rfl) rfl) hcmp hH hlt (by omega)):Calls Tryz.prog _ #[.slice (some ⟨g,0,none⟩) L.toArray.size cap,_] w9 _) |> fun hh=> ?_
 rw[hn2] at hh
 refine hh.mono ?_
 rintro e w' ⟨rfl,d',m,os,hpe,hso,rfl⟩
 have hds:d'.size=L.toArray.size:=hpe.1
 obtain⟨r1,r2⟩:=row_sortK (encR_len fr) (by omega) hrow d' hds m os
 have hper:d'.toList.Perm L:=by
  have:=hpe.2.2
  rw[←hn2] at this
  have h2:(List.take L.length d'.toList).Perm L:=by simpa[hds] using this
  rwa [List.take_of_length_le (by have:=hds;simp at this ⊢;omega)] at h2
 have hsrt:d'.toList.Pairwise (fun a b=>¬cmpR n b.fb a.fb<0):=by
  rw[List.pairwise_iff_getElem]
  intro i j hi hj hij
  have h1:i<d'.size:=by simpa using hi
  have h2:j<d'.size:=by simpa using hj
  have:=hso i j (Nat.zero_le _) hij (by omega)
  rw[getElem!_pos d' j h2,getElem!_pos d' i h1] at this
  unfold ltOf cfR at this
  rw[decide_eq_false_iff_not] at this
  simpa using this
 have hel:(els_back d'.toList).length=ps.length:=by unfold els_back;rw[List.length_map];simp;omega
 have hmf:(els_back d'.toList).map Prod.fst=d'.toList.map (·.fb):=by unfold els_back;rw[List.map_map];rfl
 refine⟨rfl,⟨_,els_back d'.toList,rfl,by rw[hel,els_rcs];exact r1,by simp[Value.ownBlock],fun p hpm=> ?_,?_,?_,?_⟩,r2⟩
 · obtain⟨z,-,rfl⟩:=List.mem_map.1 hpm
   rcases z.rd with h | ⟨b,off,c',hv,h1,h2,h3,h4⟩
   · exact .inl h
   · have hb:b≠g:=z.apt b (by rw[hv];rfl)
     exact .inr ⟨b,off,c',hv,h1,h2,ξq h3 r2.size,fun j hj=>by rw[World.cell?_of_block (r2.block b h3 (fun e=>hb (ξo e)))];exact h4 j hj⟩
 · rw[hmf,←hp,e2];exact hper.map _
 · rw[hmf,List.pairwise_map];exact hsrt
 · exact⟨r2.os.trans hB.os,r2.tape.trans hB.tape,r2.output.trans hB.output,ξs hB.size r2.size,fun k hk=>by rw[r2.block k (ξq hk hB.size) (fun e=>by have e:=ξo e;have:=hg9.1;omega),hB.block k hk]⟩
theorem found_start {w W:World} {u1 u2:Value} {n:Net} {fr tn:Int} (hnet:Rdt w (flt 4 fibE n.fs) u2) (h1:∃a m c,u1= .slice a m c) (hb:Below w.heap.size w W) (g0:W.heap[w.heap.size]?= some (.cells #[u1,u2] 35 (0,0))) (g1:W.heap[w.heap.size+1]?= some (.cells #[.int .i64 fr] 3 (0,0))) (g2:W.heap[w.heap.size+1+1]?= some (.cells #[.int .i64 tn] 3 (0,0))) (g3:W.heap[w.heap.size+1+1+1]?= some (.cells #[] 82 (0,0)))
 (g4:W.heap[w.heap.size+1+1+1+1]?= some (.cells #[.slice (some ⟨w.heap.size+1+1+1,0,none⟩) 0 0] 176 (0,0))) (g5:W.heap[w.heap.size+1+1+1+1+1]?= some (.cells #[.func (.func 238) #[] #[ptr (w.heap.size+1+1),ptr (w.heap.size+1+1+1+1),ptr (w.heap.size+1),ptr w.heap.size,ptr (w.heap.size+1+1+1+1+1)]] 252 (0,0)))
 (hn:netOk n=true) (hf:inB fr 0 ((n.ns.length:Int)-1)=true) (hne:fr≠tn):
 ExtA w w.heap.size (w.heap.size+1+1) (w.heap.size+1+1+1+1) (w.heap.size+1) w.heap.size (w.heap.size+1+1+1+1+1) fr tn u1 u2 n∧
 ∀W',Below W.heap.size W W'→ExtP w W' w.heap.size (w.heap.size+1+1) (w.heap.size+1+1+1+1) (w.heap.size+1) w.heap.size (w.heap.size+1+1+1+1+1) fr tn u1 u2 n (n.ns.length+1) fr [fr] (2 ^ fr.toNat) (.slice none 0 0) [] (.slice (some ⟨w.heap.size+1+1+1,0,none⟩) 0 0) []:=by
 obtain⟨hn2,hn8,hf14,-,hfb⟩:=netOk_yes hn
 have hfr:=inB_true hf
 have hz:w.heap.size+1+1+1+1+1<W.heap.size:=(ξa g5).1
 refine⟨⟨hnet,h1,hf14,hn8,fun i hi=> ?_,by omega,by omega⟩,fun W' hW=> ?_⟩
 · have:=hfb i hi
   unfold fbOk at this
   simp only[Bool.and_eq_true] at this
   have:=fibOk_parts this.1
   omega
 · obtain⟨c,hc⟩:=Int.eq_ofNat_of_zero_le hfr.1
   have hbk:∀{b:Nat} {o:Obj},W.heap[b]?= some o→W'.heap[b]?= some o:=fun h=>kept_o' h hW
   refine⟨⟨blkc (hbk g2) rfl,blkc (hbk g1) rfl,blkc (hbk g0) rfl,blkc (hbk g0) rfl,blkc (hbk g5) rfl⟩,⟨hbk g4,⟨by simp[rcs],.inr ⟨_,0,#[],rfl,by omega,hbk g3,ξr _,Nat.zero_le _,by simp,by simp[rcs]⟩⟩,(fun p hp=>by cases hp),(fun g hg=>by
    have:w.heap.size+1+1+1=g:=by simpa[Value.ownBlock] using hg
    omega),by simp[Value.ownBlock]⟩,hb.trans (hW.mono hb.size),(.inl ⟨rfl,rfl⟩),ξs hb.size hW.size,(fun g hg=>by cases hg),by simp,by simp,by simp,(fun s hs=>by rw[List.mem_singleton.1 hs];omega),⟨?_,fun j hj=> ?_⟩,by omega,fun e=>absurd e hne,?_⟩
   · rw[hc]
     show 2 ^ c<256
     have:2 ^ c<2 ^ 8:=Nat.pow_lt_pow_right (by omega) (by omega)
     simpa using this
   · rw[hc]
     show(2 ^ c).testBit j=true↔(j:Int)∈[(c:Int)]
     rw[Nat.testBit_two_pow,decide_eq_true_eq,List.mem_singleton];omega
   · have h2:=extR_bd hf14 (tn:=tn) (n.ns.length+1) fr [fr] []
     have h3:14 ^ (n.ns.length+1)≤14 ^ 9:=Nat.pow_le_pow_right (by omega) (by omega)
     have h4:(14:Nat) ^ 9≤1000000000000:=by decide
     simp;omega
theorem lenOk_of {n:Net} (h:netOk n=true):LenOk n:=fun j=>by
 obtain⟨-,-,-,-,hfb⟩:=netOk_yes h
 by_cases hj:j<n.fs.length
 · have:=hfb j hj
   unfold fbOk at this
   simp only[Bool.and_eq_true] at this
   have:=fibOk_parts this.1
   omega
 · unfold fbA
   rw[List.getElem?_eq_none (by omega)]
   show(0:Int)≤0∧(0:Int)≤100000
   omega
theorem routesBetween_any (u1 u2:Value) (n:Net) (fr tn:Int) (w:World) (hnet:Rdt w (flt 4 fibE n.fs) u2) (h1:∃a m c,u1= .slice a m c) (hn:netOk n=true) (hf:inB fr 0 ((n.ns.length:Int)-1)=true) (hne:fr≠tn):
 Calls Tryz.prog 220 #[.agg #[u1,u2],.int .i64 fr,.int .i64 tn] w (RtsP n fr tn w):=by
 obtain⟨NP,hNP⟩:∃NP,NP=RtsP n fr tn w:=⟨_,rfl⟩
 rw[←hNP]
 have HFS:=ξh (fun(W:World)=>found_start (W:=W) (tn:=tn) hnet h1 (hf:=hf) (hn:=hn) (hne:=hne))
 have HLN:=ξh (lenOk_of hn)
 have hb:(fr != tn)=true:=by simpa using hne
 have hc8:0≤fr∧fr≤7:=by
  obtain⟨-,h8,-⟩:=netOk_yes hn
  have:=inB_true hf
  omega
 obtain⟨c,rfl⟩:=Int.eq_ofNat_of_zero_le hc8.1
 have hcl:c<8:=by omega
 obtain⟨a1,m1,c1,rfl⟩:=h1
 obtain⟨a2,m2,c2,rfl,-,-,-,-⟩:=flt_opn (m:=4) (enc:=fibE) (fun _=>rfl) (by omega) nilB hnet
 have HSH2:=ξh (show IntKind.i64.wrap ((2:Int) ^ c)=((2 ^ (c:Int).toNat:Nat):Int) from by
  have hp:2 ^ c<2 ^ 8:=Nat.pow_lt_pow_right (by omega) hcl
  have key:∀P:Nat,P<2 ^ 8→IntKind.i64.wrap (P:Int)=P:=fun P h=>ξi _ (by omega)
  rw[show((2:Int) ^ c)=((2 ^ c:Nat):Int) by simp,key _ hp];rfl)
 have HB6:=ξh (box6_facts w (.cells #[.slice a1 m1 c1,.slice a2 m2 c2] 35) (.cells #[.int .i64 c] 3) (.cells #[.int .i64 tn] 3) (.cells #[] 82) (.cells #[.slice (some ⟨w.heap.size+1+1+1,0,none⟩) 0 0] 176) (.cells #[.func (.func 238) #[] #[ptr (w.heap.size+1+1),ptr (w.heap.size+1+1+1+1),ptr (w.heap.size+1),ptr w.heap.size,ptr (w.heap.size+1+1+1+1+1)]] 252))
 have HNP:=ξh hNP
 clear hnet hn hf hne hNP hc8
 go_enter Tryz.func220,Tryz.ntmps220
 go_upto_region 5 with fail
 generalize hW6:((((((w.alloc (.cells #[.slice a1 m1 c1,.slice a2 m2 c2] 35)).alloc (.cells #[.int .i64 c] 3)).alloc (.cells #[.int .i64 tn] 3)).alloc (.cells #[] 82)).alloc (.cells #[.slice (some ⟨w.heap.size+1+1+1,0,none⟩) 0 0] 176)).alloc (.cells #[.func (.func 238) #[] #[ptr (w.heap.size+1+1),ptr (w.heap.size+1+1+1+1),ptr (w.heap.size+1),ptr w.heap.size,ptr (w.heap.size+1+1+1+1+1)]] 252))=W6 at *
 obtain⟨b6,g0,g1,g2,g3,g4,g5,hz6⟩:=HB6.out
 obtain⟨hA,hP⟩:=HFS.out W6 b6 g0 g1 g2 g3 g4 g5
 have HA:=ξh hA
 have HP:=ξh hP
 have HBB:=ξh b6
 have HG4:=ξh g4
 have hl1:w.heap.size+1<W6.heap.size:=by omega
 have hl5:w.heap.size+1+1+1+1+1<W6.heap.size:=by omega
 have HSS:=ξh (fun(w':World) (hb:Below W6.heap.size W6 w')=>show w'.cell? ⟨w.heap.size+1+1+1+1+1,0,none⟩=some (.func (.func 238) #[] #[ptr (w.heap.size+1+1),ptr (w.heap.size+1+1+1+1),ptr (w.heap.size+1),ptr w.heap.size,ptr (w.heap.size+1+1+1+1+1)])∧w'.cell? ⟨w.heap.size+1,0,none⟩=some (.int .i64 (c:Int)) from
  ⟨(hb.cell (p:=⟨_,0,none⟩) hl5).trans (blkc g5 rfl),(hb.cell (p:=⟨_,0,none⟩) hl1).trans (blkc g1 rfl)⟩)
 clear hA hP b6 g0 g1 g2 g3 g4 g5 hl1 hl5 hW6 HFS
 refine wp_region_L [0,1,2,3,4] (S:=fun w'=>w'.cell? ⟨w.heap.size+1+1+1+1+1,0,none⟩=some (.func (.func 238) #[] #[ptr (w.heap.size+1+1),ptr (w.heap.size+1+1+1+1),ptr (w.heap.size+1),ptr w.heap.size,ptr (w.heap.size+1+1+1+1+1)])∧w'.cell? ⟨w.heap.size+1,0,none⟩=some (.int .i64 (c:Int))) (by kernel_rfl) (HSS.out _ (ξb _ _).drew) (fun hH=> ?_)
 refine hlF 0 rfl hH ?_
 try simp only[Act.put,hlA,hlB,hlC]
 refine hlF 1 rfl hH ?_
 try simp only[Act.put,hlA,hlB,hlC]
 refine hlF 2 rfl hH ?_
 try simp only[Act.put,hlA,hlB,hlC]
 refine hlF 3 rfl hH ?_
 try simp only[Act.put,hlA,hlB,hlC]
 refine hlStep 4 rfl (by kernel_rfl) (by kernel_rfl) (fun KK hKK=> ?_)
 go_simp
 rw[HSH2.out]
 refine(ext_any HA.out _ _ _ _ _ _ _ _ _ (HP.out _ (ξb _ _).drew)).mono ?_
 rintro e w9 ⟨rfl,v9,ps9,s9,m9,mv9⟩
 refine hKK.out _ _ ?_
 clear hKK KK
 try simp only[Act.put,hlA,hlB,hlC]
 refine hlDone (by kernel_rfl) ?_ _
 rotate_left 1
 have hb9:Below w.heap.size w w9:=mv9.below (HBB.out.drew) (by have:=HBB.out.size;simpa using this) (fun g hg=>by
  rcases hg with rfl | hg
  · omega
  · have:w.heap.size+1+1+1=g:=by simpa[Value.ownBlock] using hg
    omega)
 obtain⟨a9,c9,rfl⟩:=rowf s9.row
 have hE9:=(HP.out _ (ξb _ _).drew).env.mv mv9 (HP.out _ (ξb _ _).drew).sta.vq HA.out.ne
 have HSF:=ξh (sortFound_any HA.out HLN.out hE9 s9 hb9 m9)
 have HVQ:=ξh s9.vq
 have HBX:=ξh s9.box
 have y9:=blkc s9.box (j:=0) (u:= .slice a9 ps9.length c9) rfl
 clear s9 m9 mv9 hb9 hE9
 go_wp2_with (go_at_call 240;refine HSF.out.mono ?_;rintro e w10 ⟨rfl,h10,g10⟩;have H10:=ξh h10;have y10:=blkc ((g10.block _ (ξa HBX.out).1 (fun e=>(HVQ.out _ e.symm).2.1 rfl)).trans HBX.out) (j:=0) (u:= .slice a9 ps9.length c9) rfl;clear h10 g10)
 rw[HNP.out]
 exact H10.out
end Go.Proofs.YtofcicomhnkocaaGreat
