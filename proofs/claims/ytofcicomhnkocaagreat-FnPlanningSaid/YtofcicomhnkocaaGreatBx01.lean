import Derived.Test.YtofcicomhnkocaaGreatAls
import Derived.Deep.AppendLies
import Derived.Deep.RegionHeld3
import Derived.Handy
import Derived.StillTailTactics
import Derived.Test.YtofcicomhnkocaaGreatProg
import Derived.WalkLawsBesides
import Derived.WalkSpells
import Derived.Deep.CutRange
import Derived.Deep.Upon
import Derived.Laws.AppendOwnNone
import Derived.Laws.CopyOwn
import Derived.Laws.EntriesVeiled
import Derived.Lib.ItoaNum
import Derived.Lib.Join
import Derived.Lib.SlicesCompact
import Derived.Lib.SmallJoins
import Derived.Shelf.SlSortCmp.WholeK
import Derived.Shelf.Spec.SlicesInsertGrow
import Derived.Sort.OwnSortedInts
import Derived.Test.YtofcicomhnkocaaGreatShelf
import Derived.Test.YtofcicomhnkocaaGreatSortShelf
set_option linter.unusedVariables false
namespace Go.Proofs.YtofcicomhnkocaaGreat
set_option maxHeartbeats 1600000
open Go.RowKit
abbrev ints (xs:List Int):List Value:=xs.map (Value.int .i64)
def Rd (w:World) (v:Value) (xs:List Int):Prop:=
 (v= .slice none 0 0∧xs=[])∨
 ∃b off cap,v= .slice (some ⟨b,off,none⟩) xs.length cap∧xs.length≤cap∧cap≤maxLen∧b<w.heap.size∧ ∀j,j<xs.length→w.cell? ⟨b,off+j,none⟩=some (.int .i64 ((xs[j]?.getD 0)))
def Own (w:World) (base:Nat) (v:Value) (xs:List Int):Prop:=
 (v= .slice none 0 0∧xs=[])∨
 ∃g off cap cur,v= .slice (some ⟨g,off,none⟩) xs.length cap∧base≤g∧(∃T,w.heap[g]?= some (.cells cur T (0,0)))∧xs.length≤cap∧cap≤maxLen∧off+cap≤cur.size∧(cur.toList.drop off).take xs.length=ints xs
theorem Own.rd {w:World} {base:Nat} {v:Value} {xs:List Int} (h:Own w base v xs):Rd w v xs:=by
 rcases h with h | ⟨g,off,cap,cur,hv,hb,⟨T,hg⟩,hl,hm,hs,ht⟩
 · exact .inl h
 · refine .inr ⟨g,off,cap,hv,hl,hm,(ξa hg).1,fun j hj=> ?_⟩
   rw[cell_of_row w g (off+j) cur _ (0,0) hg]
   have e:((cur.toList.drop off).take xs.length)[j]?= (ints xs)[j]?:=by rw[ht]
   rw[List.getElem?_take,if_pos hj,List.getElem?_drop] at e
   rw[←Array.getElem?_toList,e]
   simp[hj]
theorem Own.lt {w:World} {base:Nat} {v:Value} {xs:List Int} (h:Own w base v xs):∀k,v.ownBlock=some k→base≤k∧k<w.heap.size:=by
 intro k hk
 rcases h with ⟨rfl,_⟩ | ⟨g,off,cap,cur,rfl,hb,⟨T,hg⟩,_⟩
 · simp[Value.ownBlock] at hk
 · simp[Value.ownBlock] at hk
   subst hk
   exact⟨hb,(ξa hg).1⟩
theorem Own.mono {w:World} {base base':Nat} {v:Value} {xs:List Int} (h:Own w base v xs) (hb:base'≤base):Own w base' v xs:=by
 rcases h with h | ⟨g,off,cap,cur,hv,hbg,rest⟩
 · exact .inl h
 · exact .inr ⟨g,off,cap,cur,hv,by omega,rest⟩
theorem Own.kept {w w':World} {base:Nat} {v:Value} {xs:List Int} (h:Own w base v xs) (hk:∀k,v.ownBlock=some k→w'.heap[k]?= w.heap[k]?):Own w' base v xs:=by
 rcases h with h | ⟨g,off,cap,cur,hv,hbg,hg,rest⟩
 · exact .inl h
 · subst hv
   obtain⟨T,hg⟩:=hg
   exact .inr ⟨g,off,cap,cur,rfl,hbg,⟨T,by rw[hk g rfl];exact hg⟩,rest⟩
theorem Own.below {B base:Nat} {w w':World} {v:Value} {xs:List Int} (h:Own w base v xs) (hb:Below B w w') (hB:∀k,v.ownBlock=some k→k<B):Own w' base v xs:=
 h.kept fun k hk=>hb.block k (hB k hk)
theorem Own.belowAll {base:Nat} {w w':World} {v:Value} {xs:List Int} (h:Own w base v xs) (hb:Below w.heap.size w w'):Own w' base v xs:=
 h.below hb fun k hk=>(h.lt k hk).2
theorem Rd.drew {w:World} {v:Value} {xs:List Int} (h:Rd w v xs):Rd w.drew v xs:=h
theorem Rd.below {B:Nat} {w w':World} {v:Value} {xs:List Int} (h:Rd w v xs) (hb:Below B w w') (hB:∀k,v.ownBlock=some k→k<B):Rd w' v xs:=by
 rcases h with h | ⟨b,off,cap,hv,h1,h2,h3,h4⟩
 · exact .inl h
 · subst hv
   exact .inr ⟨b,off,cap,rfl,h1,h2,by have:=hb.size;omega,fun j hj=>by rw[hb.cell (p:=⟨b,off+j,none⟩) (hB b rfl)];exact h4 j hj⟩
theorem Rd.belowAll {w w':World} {v:Value} {xs:List Int} (h:Rd w v xs) (hb:Below w.heap.size w w'):Rd w' v xs:=by
 refine h.below hb fun k hk=> ?_
 rcases h with ⟨rfl,_⟩ | ⟨b,off,cap,rfl,h1,h2,h3,h4⟩
 · simp[Value.ownBlock] at hk
 · simp[Value.ownBlock] at hk;omega
theorem Rd.shape {w:World} {v:Value} {xs:List Int} (h:Rd w v xs):∃a cap,v= .slice a xs.length cap∧xs.length≤cap∧cap≤maxLen∧
 (0<xs.length→ ∃b off,a=some ⟨b,off,none⟩∧b<w.heap.size∧ ∀j,j<xs.length→w.cell? ⟨b,off+j,none⟩=some (.int .i64 ((xs[j]?.getD 0)))):=by
 rcases h with ⟨rfl,rfl⟩ | ⟨b,off,cap,rfl,h1,h2,h3,h4⟩
 · exact⟨none,0,rfl,by simp,by simp,by simp⟩
 · exact⟨_,_,rfl,h1,h2,fun _=>⟨b,off,rfl,h3,h4⟩⟩
theorem _root_.Go.World.grownBy.trans' {a b c:World} {row:Option Nat} (h:a.grownBy b row) (h2:b.grownBy c row):a.grownBy c row:=
 ⟨h2.os.trans h.os,h2.tape.trans h.tape,h2.output.trans h.output,ξs h.size h2.size,fun k hk hne=>(h2.block k (by have:=h.size;omega) hne).trans (h.block k hk hne)⟩
def Dr (w w':World):Prop:=∃n,w'=w.drewN n
theorem Dr.refl (w:World):Dr w w:=⟨0,rfl⟩
theorem Dr.drewN {w w':World} (h:Dr w w') (n:Nat):Dr w (w'.drewN n):=by
 obtain⟨m,rfl⟩:=h
 exact⟨m+n,by simp⟩
theorem Dr.below {B:Nat} {a w w':World} (h:Dr w w') (hb:Below B a w):Below B a w':=by
 obtain⟨m,rfl⟩:=h
 exact hb.trans ⟨rfl,rfl,rfl,ξr _,fun _ _=>rfl⟩
theorem Rd.opn {w:World} {v:Value} {xs:List Int} (h:Rd w v xs):∃a cap n,Hid (xs.length=n)∧v= .slice a n cap∧n≤cap∧n≤9223372036854775807∧
 (0<n→ ∃b off,a=some ⟨b,off,none⟩∧b<w.heap.size∧ ∀j,j<n→w.cell? ⟨b,off+j,none⟩=some (.int .i64 ((xs[j]?.getD 0)))):=by
 obtain⟨a,cap,hv,h1,h2,h3⟩:=h.shape
 unfold maxLen at h2
 exact⟨a,cap,xs.length,rfl,hv,h1,by omega,h3⟩
theorem ξa4 {w:World} {base:Nat} {v:Value} {n:Nat} {xs:List Int} (h:w.ownsRow base 3 1 v n (ints xs)):Own w base v xs:=by
 obtain⟨hl,h⟩:=h
 have hn:n=xs.length:=by simpa using hl.symm
 subst hn
 rcases h with ⟨rfl,h0⟩ | ⟨g,cap,cur,rfl,hb,hg,h1,h2,h3,h4⟩
 · exact .inl ⟨rfl,List.eq_nil_of_length_eq_zero h0⟩
 · exact .inr ⟨g,0,cap,cur,rfl,hb,⟨_,hg⟩,h1,h2,by omega,by simpa using h4⟩
theorem Own.stored {w:World} {base:Nat} {v:Value} {xs:List Int} {g off n cap:Nat} (h:Own w base v xs) (hv:v= .slice (some ⟨g,off,none⟩) n cap) (j:Nat) (hj:j<xs.length) (u:Int):
 Own (w.setCell ⟨g,off+j,none⟩ (.int .i64 u)) base v (xs.set j u)∧w.grownBy (w.setCell ⟨g,off+j,none⟩ (.int .i64 u)) (some g):=by
 rcases h with ⟨rfl,rfl⟩ | ⟨g',off',cap',cur,hv',hb,⟨T,hg⟩,h1,h2,h3,h4⟩
 · simp at hj
 · rw[hv'] at hv
   simp only[Value.slice.injEq,Option.some.injEq,Addr.mk.injEq,and_true] at hv
   obtain⟨⟨rfl,rfl⟩,rfl,rfl⟩:=hv
   refine⟨.inr ⟨g',off',cap',cur.setIfInBounds (off'+j) (.int .i64 u),by simpa using hv',hb,⟨T,ξe w g' (off'+j) cur _ _ hg⟩,by simpa using h1,h2,by simpa using h3,?_⟩,
    ⟨rfl,rfl,rfl,by simp,fun k _ hk=>ξm w ⟨g',off'+j,none⟩ k _ (fun e=>hk (by simp[e]))⟩⟩
   rw[Array.toList_setIfInBounds,List.length_set]
   show List.take xs.length (List.drop off' (cur.toList.set (off'+j) (.int .i64 u)))=(xs.set j u).map (Value.int .i64)
   rw[List.map_set]
   show _=(ints xs).set j (Value.int .i64 u)
   rw[←h4,List.drop_set,if_neg (by omega),List.take_set]
   congr 1;omega
theorem Own.frozenAt {w:World} {base:Nat} {v:Value} {xs:List Int} {g off n cap:Nat} (h:Own w base v xs) (hv:v= .slice (some ⟨g,off,none⟩) n cap) (j:Nat):w.frozen? ⟨g,j,none⟩=false:=by
 rcases h with ⟨rfl,rfl⟩ | ⟨g',off',cap',cur,hv',hb,⟨T,hg⟩,h1,h2,h3,h4⟩
 · simp at hv
 · rw[hv'] at hv
   simp only[Value.slice.injEq,Option.some.injEq,Addr.mk.injEq,and_true] at hv
   obtain⟨⟨rfl,rfl⟩,rfl,rfl⟩:=hv
   exact ξz w g' j cur _ hg
theorem Own.cellAt {w:World} {base:Nat} {v:Value} {xs:List Int} {g off n cap:Nat} (h:Own w base v xs) (hv:v= .slice (some ⟨g,off,none⟩) n cap):n=xs.length∧ ∀j,j<xs.length→w.cell? ⟨g,off+j,none⟩=some (.int .i64 ((xs[j]?.getD 0))):=by
 rcases h.rd with ⟨rfl,rfl⟩ | ⟨b,off',cap',hv',h1,h2,h3,h4⟩
 · simp at hv
 · rw[hv'] at hv
   simp only[Value.slice.injEq,Option.some.injEq,Addr.mk.injEq,and_true] at hv
   obtain⟨⟨rfl,rfl⟩,rfl,rfl⟩:=hv
   exact⟨rfl,h4⟩
theorem Tryz.infoInt:(Tryz.prog.info? 3).map (fun i=>(i.zero,i.size,i.bytes))=some (some (.int .i64 0),1,8):=by kernel_rfl
inductive Dt where
 | leaf (v:Value)
 | rows (size:Nat) (ds:List Dt)
inductive Rdt (w:World):Dt→Value→Prop
 | leaf (u:Value):Rdt w (.leaf u) u
 | nil (size:Nat):Rdt w (.rows size []) (.slice none 0 0)
 | mk {size n b off cap:Nat} {ds:List Dt} {us:List Value} (hl:ds.length=n*size) (hu:us.length=ds.length) (hn:n≤cap) (hc:cap≤maxLen) (hb:b<w.heap.size)
  (hcell:∀(j:Nat) (u:Value),us[j]?= some u→w.cell? ⟨b,off+j,none⟩=some u) (hd:∀(j:Nat) (d:Dt) (u:Value),ds[j]?= some d→us[j]?= some u→Rdt w d u):Rdt w (.rows size ds) (.slice (some ⟨b,off,none⟩) n cap)
inductive Odt (w:World):Dt→Value→List Nat→Prop
 | leaf (u:Value):Odt w (.leaf u) u []
 | nil (size:Nat):Odt w (.rows size []) (.slice none 0 0) []
 | mk {size n g off cap:Nat} {ds:List Dt} {us:List Value} {fs:List (List Nat)} {cur:Array Value} {T:TypeId} (hl:ds.length=n*size) (hu:us.length=ds.length) (hf:fs.length=ds.length) (hn:n≤cap) (hc:cap≤maxLen)
  (hg:w.heap[g]?= some (.cells cur T (0,0))) (hcs:off+cap*size≤cur.size) (ht:(cur.toList.drop off).take (n*size)=us)
  (hd:∀(j:Nat) (d:Dt) (u:Value) (f:List Nat),ds[j]?= some d→us[j]?= some u→fs[j]?= some f→Odt w d u f):Odt w (.rows size ds) (.slice (some ⟨g,off,none⟩) n cap) (g::fs.flatten)
theorem Rdt.leaf_inv {w:World} {u v:Value} (h:Rdt w (.leaf u) v):v=u:=by cases h;rfl
theorem Odt.leaf_inv {w:World} {u v:Value} {fp:List Nat} (h:Odt w (.leaf u) v fp):v=u∧fp=[]:=by cases h;exact⟨rfl,rfl⟩
theorem Rdt.kept {w w':World} {d:Dt} {v:Value} (h:Rdt w d v) (hs:w.heap.size≤w'.heap.size) (hk:∀p:Addr,p.block<w.heap.size→w'.cell? p=w.cell? p):Rdt w' d v:=by
 induction h with
 | leaf u=>exact .leaf u
 | nil size=>exact .nil size
 | mk hl hu hn hc hb hcell hd ih=>
   exact .mk hl hu hn hc (by omega) (fun j u hj=>(hk _ hb).trans (hcell j u hj)) (fun j d u h1 h2=>ih j d u h1 h2)
theorem Rdt.behind {w w':World} {d:Dt} {v:Value} (h:Rdt w d v) (hb:Below w.heap.size w w'):Rdt w' d v:=h.kept hb.size (fun _ hp=>hb.cell hp)
theorem Odt.kept {w w':World} {d:Dt} {v:Value} {fp:List Nat} (h:Odt w d v fp) (hk:∀b∈fp,w'.heap[b]?= w.heap[b]?):Odt w' d v fp:=by
 induction h with
 | leaf u=>exact .leaf u
 | nil size=>exact .nil size
 | @mk size n g off cap ds us fs cur T hl hu hf hn hc hg hcs ht hd ih=>
   refine .mk hl hu hf hn hc (by rw[hk g (by simp)];exact hg) hcs ht (fun j d u f h1 h2 h3=>ih j d u f h1 h2 h3 fun b hb=>hk b ?_)
   exact List.mem_cons_of_mem _ (List.mem_flatten.2 ⟨f,List.mem_of_getElem? h3,hb⟩)
theorem Odt.lt {w:World} {d:Dt} {v:Value} {fp:List Nat} (h:Odt w d v fp):∀b∈fp,b<w.heap.size:=by
 induction h with
 | leaf u=>intro b hb;cases hb
 | nil size=>intro b hb;cases hb
 | @mk size n g off cap ds us fs cur T hl hu hf hn hc hg hcs ht hd ih=>
   intro b hb
   rcases List.mem_cons.1 hb with rfl | hb
   · exact(ξa hg).1
   · obtain⟨f,hf1,hf2⟩:=List.mem_flatten.1 hb
     obtain⟨j,hj,e⟩:=List.mem_iff_getElem.1 hf1
     exact ih j (ds[j]'(by omega)) (us[j]'(by omega)) f (ξg _) (ξg _) (by rw[ξg hj,e]) b hf2
theorem Odt.behind {w w':World} {d:Dt} {v:Value} {fp:List Nat} (h:Odt w d v fp) (hb:Below w.heap.size w w'):Odt w' d v fp:=h.kept fun b hb'=>hb.block b (h.lt b hb')
theorem ξaj {w:World} {g off m:Nat} {cur:Array Value} {T:TypeId} {us:List Value} (hg:w.heap[g]?= some (.cells cur T (0,0))) (ht:(cur.toList.drop off).take m=us) {j:Nat} {u:Value} (hj:us[j]?= some u) (hm:us.length=m):w.cell? ⟨g,off+j,none⟩=some u:=by
 rw[cell_of_row _ _ _ _ _ _ hg,←Array.getElem?_toList]
 have hlt:j<m:=by have:=(ξl hj).1;omega
 have h2:((cur.toList.drop off).take m)[j]?= some u:=by rw[ht];exact hj
 rw[List.getElem?_take,if_pos hlt,List.getElem?_drop] at h2
 exact h2
theorem Odt.rd {w:World} {d:Dt} {v:Value} {fp:List Nat} (h:Odt w d v fp):Rdt w d v:=by
 induction h with
 | leaf u=>exact .leaf u
 | nil size=>exact .nil size
 | @mk size n g off cap ds us fs cur T hl hu hf hn hc hg hcs ht hd ih=>
   refine .mk (us:=us) hl hu hn hc (ξa hg).1 (fun j u hj=>ξaj hg ht hj (by omega)) (fun j d u h1 h2=> ?_)
   have hj:j<fs.length:=by have:=(ξl h1).1;omega
   exact ih j d u _ h1 h2 (ξg hj)
theorem Rdt.opn {w:World} {size:Nat} {ds:List Dt} {v:Value} (h:Rdt w (.rows size ds) v):∃a n cap,v= .slice a n cap∧Hid (ds.length=n*size)∧n≤cap∧n≤9223372036854775807∧
 (0<n→ ∃b off,a=some ⟨b,off,none⟩∧b<w.heap.size∧ ∀(j:Nat) (d:Dt),ds[j]?= some d→ ∃u,w.cell? ⟨b,off+j,none⟩=some u∧Rdt w d u):=by
 cases h with
 | nil size=>exact⟨none,0,0,rfl,by simp[Hid],by omega,by omega,fun h=>by omega⟩
 | @mk size n b off cap ds us hl hu hn hc hb hcell hd=>
   refine⟨_,n,cap,rfl,hl,hn,by unfold maxLen at hc;omega,fun _=>⟨b,off,rfl,hb,fun j d hj=> ?_⟩⟩
   have hju:j<us.length:=by have:=(ξl hj).1;omega
   exact⟨us[j],hcell j _ (ξg hju),hd j _ _ hj (ξg hju)⟩
def inD (xs:List Int):Dt:= .rows 1 (xs.map fun x=> .leaf (.int .i64 x))
theorem Rdt.toRd {w:World} {xs:List Int} {v:Value} (h:Rdt w (inD xs) v):Rd w v xs:=by
 unfold inD at h
 generalize hD:(xs.map fun x=>Dt.leaf (.int .i64 x))=ds at h
 cases h with
 | nil size=>exact .inl ⟨rfl,by simpa using hD⟩
 | @mk size n b off cap ds us hl hu hn hc hb hcell hd=>
   have hlen:xs.length=n:=by rw[←hD] at hl;simpa using hl
   subst hlen
   refine .inr ⟨b,off,cap,rfl,hn,hc,hb,fun j hj=> ?_⟩
   have hju:j<us.length:=by omega
   have h1:=hd j (.leaf (.int .i64 xs[j])) us[j] (by rw[←hD];simp[hj]) (ξg hju)
   have h2:us[j]= .int .i64 xs[j]:=h1.leaf_inv
   rw[hcell j _ (ξg hju),h2,ξg hj];rfl
theorem Own.tree {w:World} {base:Nat} {v:Value} {xs:List Int} (h:Own w base v xs):∃fp,Odt w (inD xs) v fp∧fp.Nodup∧(∀k∈fp,v.ownBlock=some k):=by
 rcases h with ⟨rfl,rfl⟩ | ⟨g,off,cap,cur,rfl,hb,⟨T,hg⟩,h1,h2,h3,h4⟩
 · exact⟨[],.nil 1,List.nodup_nil,fun k hk=>by cases hk⟩
 · refine⟨[g],?_,by simp,fun k hk=>by simp at hk;subst hk;rfl⟩
   have hfl:(List.replicate xs.length ([]:List Nat)).flatten=[]:=by simp
   have:=Odt.mk (w:=w) (size:=1) (n:=xs.length) (g:=g) (off:=off) (cap:=cap) (ds:=xs.map fun x=>Dt.leaf (.int .i64 x)) (us:=ints xs) (fs:=List.replicate xs.length []) (by simp) (by simp) (by simp) h1 h2 hg (by omega) (by rw[Nat.mul_one];exact h4)
    (fun j d u f e1 e2 e3=>by
      have hj:j<xs.length:=by have:=(ξl e1).1;simpa using this
      simp[hj] at e1 e2 e3
      subst e1;subst e2;subst e3
      exact .leaf _)
   rw[hfl] at this
   exact this
theorem Odt.toOwn {w:World} {base:Nat} {v:Value} {xs:List Int} {fp:List Nat} (h:Odt w (inD xs) v fp) (hb:∀k∈fp,base≤k):Own w base v xs∧ ∀k,v.ownBlock=some k→k∈fp:=by
 unfold inD at h
 generalize hD:(xs.map fun x=>Dt.leaf (.int .i64 x))=ds at h
 cases h with
 | nil size=>exact⟨.inl ⟨rfl,by simpa using hD⟩,fun k hk=>by simp[Value.ownBlock] at hk⟩
 | @mk size n g off cap ds us fs cur T hl hu hf hn hc hg hcs ht hd=>
   have hlen:xs.length=n:=by rw[←hD] at hl;simpa using hl
   subst hlen
   have hus:us=ints xs:=by
    apply List.ext_getElem?
    intro j
    by_cases hj:j<xs.length
    · have hju:j<us.length:=by omega
      have hjf:j<fs.length:=by omega
      have h1:=hd j (.leaf (.int .i64 xs[j])) us[j] fs[j] (by rw[←hD];simp[hj]) (ξg hju) (ξg hjf)
      have h2:us[j]= .int .i64 xs[j]:=h1.leaf_inv.1
      rw[ξg hju,h2];simp[hj]
    · rw[List.getElem?_eq_none (by omega),List.getElem?_eq_none (by simp;omega)]
   refine⟨.inr ⟨g,off,cap,cur,rfl,hb g (by simp),⟨T,hg⟩,hn,hc,by omega,by rw[Nat.mul_one] at ht;rw[ht,hus]⟩,fun k hk=>by simp[Value.ownBlock] at hk;subst hk;simp⟩
def Ofr (w:World) (base:Nat) (d:Dt) (v:Value):Prop:=∃fp,Odt w d v fp∧fp.Nodup∧ ∀k∈fp,base≤k
theorem Ofr.rd {w:World} {base:Nat} {d:Dt} {v:Value} (h:Ofr w base d v):Rdt w d v:=by obtain⟨fp,h,_⟩:=h;exact h.rd
theorem Own.ofr {w:World} {base:Nat} {v:Value} {xs:List Int} (h:Own w base v xs):Ofr w base (inD xs) v:=by
 obtain⟨fp,h1,h2,h3⟩:=h.tree
 exact⟨fp,h1,h2,fun k hk=>(h.lt k (h3 k hk)).1⟩
theorem Ofr.own {w:World} {base:Nat} {v:Value} {xs:List Int} (h:Ofr w base (inD xs) v):Own w base v xs:=by
 obtain⟨fp,h1,_,h3⟩:=h;exact(h1.toOwn h3).1
theorem Ofr.nil (w:World) (base size:Nat):Ofr w base (.rows size []) (.slice none 0 0):=⟨[],.nil size,List.nodup_nil,fun k hk=>by cases hk⟩
theorem ξcg {fs:List (List Nat)} {k:Nat} (h:k∈fs.flatten):∃j,∃hj:j<fs.length,k∈fs[j]:=by
 obtain⟨f,h1,h2⟩:=List.mem_flatten.1 h
 obtain⟨j,hj,e⟩:=List.mem_iff_getElem.1 h1
 exact⟨j,hj,by rw[e];exact h2⟩
def Grw (w:World) (base:Nat) (T:TypeId) (size:Nat) (v:Value) (n:Nat) (ds:List Dt):Prop:=
 ∃(us:List Value) (fs:List (List Nat)),w.ownsRow base T size v n us∧us.length=ds.length∧fs.length=ds.length∧(∀(j:Nat) (d:Dt) (u:Value) (f:List Nat),ds[j]?= some d→us[j]?= some u→fs[j]?= some f→Odt w d u f)∧fs.flatten.Nodup∧(∀k∈fs.flatten,base≤k)∧ ∀g,v.ownBlock=some g→g ∉ fs.flatten
theorem Grw.flt {w:World} {ds:List Dt} {us:List Value} {fs:List (List Nat)} (h1:us.length=ds.length) (h2:fs.length=ds.length) (h:∀(j:Nat) (d:Dt) (u:Value) (f:List Nat),ds[j]?= some d→us[j]?= some u→fs[j]?= some f→Odt w d u f):∀k∈fs.flatten,k<w.heap.size:=fun k hk=>by
 obtain⟨j,hj,hk⟩:=ξcg hk
 exact(h j _ _ _ (ξg (by omega)) (ξg (by omega)) (ξg hj)).lt k hk
theorem Grw.own {w:World} {base size n:Nat} {T:TypeId} {v:Value} {ds:List Dt} (h:Grw w base T size v n ds):∀k,v.ownBlock=some k→base≤k∧k<w.heap.size:=by
 obtain⟨us,fs,h,_⟩:=h;exact h.lt
theorem Grw.form {w:World} {base size n:Nat} {T:TypeId} {v:Value} {ds:List Dt} (h:Grw w base T size v n ds):ds.length=n*size∧ ∃a cap,v= .slice a n cap:=by
 obtain⟨us,fs,h,h1,_⟩:=h
 refine⟨by rw[←h1];exact h.1,?_⟩
 rcases h.2 with ⟨rfl,rfl⟩ | ⟨g,cap,cur,rfl,_⟩
 · exact⟨none,0,rfl⟩
 · exact⟨_,cap,rfl⟩
theorem Grw.below {w w':World} {base size n:Nat} {T:TypeId} {v:Value} {ds:List Dt} (h:Grw w base T size v n ds) (hb:Below w.heap.size w w'):Grw w' base T size v n ds:=by
 obtain⟨us,fs,h1,h2,h3,h4,h5,h6,h7⟩:=h
 refine⟨us,fs,⟨h1.1,?_⟩,h2,h3,fun j d u f e1 e2 e3=>(h4 j d u f e1 e2 e3).behind hb,h5,h6,h7⟩
 rcases h1.2 with h | ⟨g,cap,cur,rfl,q1,q2,q3⟩
 · exact .inl h
 · exact .inr ⟨g,cap,cur,rfl,q1,by rw[hb.block g (ξa q2).1];exact q2,q3⟩
theorem Grw.ofr {w:World} {base size n:Nat} {T:TypeId} {v:Value} {ds:List Dt} (h:Grw w base T size v n ds):Ofr w base (.rows size ds) v:=by
 obtain⟨us,fs,h1,h2,h3,h4,h5,h6,h7⟩:=h
 rcases h1.2 with ⟨rfl,rfl⟩ | ⟨g,cap,cur,rfl,q1,q2,q3,q4,q5,q6⟩
 · have:ds=[]:=List.eq_nil_of_length_eq_zero (by have:=h1.1;omega)
   subst this
   exact Ofr.nil _ _ _
 · have hgn:g ∉ fs.flatten:=h7 g rfl
   refine⟨g::fs.flatten,.mk (us:=us) (by rw[←h2];exact h1.1) h2 h3 q3 q4 q2 (by omega) (by rw[List.drop_zero];exact q6) h4,List.nodup_cons.2 ⟨hgn,h5⟩,fun k hk=> ?_⟩
   rcases List.mem_cons.1 hk with rfl | hk
   · exact q1
   · exact h6 k hk
def Newd (w:World) (lo:Nat) (news:List Value) (ds:List Dt):Prop:=∃fs:List (List Nat),news.length=ds.length∧fs.length=ds.length∧(∀(j:Nat) (d:Dt) (u:Value) (f:List Nat),ds[j]?= some d→news[j]?= some u→fs[j]?= some f→Odt w d u f)∧fs.flatten.Nodup∧ ∀k∈fs.flatten,lo≤k
theorem Newd.one {w:World} {lo:Nat} {d:Dt} {u:Value} (h:Ofr w lo d u):Newd w lo [u] [d]:=by
 obtain⟨fp,h1,h2,h3⟩:=h
 refine⟨[fp],rfl,rfl,fun j d' u' f' e1 e2 e3=> ?_,by simpa using h2,by simpa using h3⟩
 match j with
 | 0=>simp at e1 e2 e3;subst e1;subst e2;subst e3;exact h1
 | j+1=>simp at e1
theorem Grw.pushed {w w2 w3:World} {base size n g cap:Nat} {T:TypeId} {v:Value} {ds ds':List Dt} {news us:List Value} {fs:List (List Nat)}
 (h2:us.length=ds.length) (h3:fs.length=ds.length) (h4:∀(j:Nat) (d:Dt) (u:Value) (f:List Nat),ds[j]?= some d→us[j]?= some u→fs[j]?= some f→Odt w d u f) (h5:fs.flatten.Nodup) (h6:∀k∈fs.flatten,base≤k) (h7:∀g,v.ownBlock=some g→g ∉ fs.flatten) (hv:∀g,v.ownBlock=some g→g<w.heap.size) (hbb:base≤w.heap.size)
 (hb:Below w.heap.size w w2) (hN:Newd w2 w.heap.size news ds') (hr:w3.ownsRow base T size (.slice (some ⟨g,0,none⟩) (n+1) cap) (n+1) (us++news)) (hg:w2.grownBy w3 v.ownBlock) (hgg:v.ownBlock=some g∨w2.heap.size≤g):
 Grw w3 base T size (.slice (some ⟨g,0,none⟩) (n+1) cap) (n+1) (ds++ds'):=by
 obtain⟨fs',k1,k2,k3,k4,k5⟩:=hN
 have hlt:∀k∈fs.flatten,k<w.heap.size:=Grw.flt h2 h3 h4
 have hlt':∀k∈fs'.flatten,k<w2.heap.size:=Grw.flt k1 k2 k3
 have hkold:∀k∈fs.flatten,w3.heap[k]?= w.heap[k]?:=fun k hk=>by
  rw[hg.block k (ξq (hlt k hk) hb.size) (fun e=>h7 k e.symm hk),hb.block k (hlt k hk)]
 have hknew:∀k∈fs'.flatten,w3.heap[k]?= w2.heap[k]?:=fun k hk=>hg.block k (hlt' k hk) (fun e=>by have:=hv k e.symm;have:=k5 k hk;omega)
 refine⟨us++news,fs++fs',hr,by simp[h2,k1],by simp[h3,k2],fun j d u f e1 e2 e3=> ?_,?_,fun k hk=> ?_,fun k hk hm=> ?_⟩
 · by_cases hj:j<ds.length
   · rw[List.getElem?_append_left (by omega)] at e1 e2 e3
     exact(h4 j d u f e1 e2 e3).kept fun k hk=>hkold k (List.mem_flatten.2 ⟨f,List.mem_of_getElem? e3,hk⟩)
   · rw[List.getElem?_append_right (by omega)] at e1 e2 e3
     rw[h2] at e2;rw[h3] at e3
     exact(k3 _ d u f e1 e2 e3).kept fun k hk=>hknew k (List.mem_flatten.2 ⟨f,List.mem_of_getElem? e3,hk⟩)
 · rw[List.flatten_append,List.nodup_append]
   exact⟨h5,k4,fun a ha b hb e=>by have:=hlt a ha;have:=k5 b hb;omega⟩
 · rw[List.flatten_append,List.mem_append] at hk
   rcases hk with hk | hk
   · exact h6 k hk
   · have:=k5 k hk;omega
 · have:g=k:=by simpa[Value.ownBlock] using hk
   subst this
   rw[List.flatten_append,List.mem_append] at hm
   rcases hgg with e | e
   · rcases hm with hm | hm
     · exact h7 g e hm
     · have:=hv g e;have:=k5 g hm;omega
   · rcases hm with hm | hm
     · have:=hlt g hm;have:=hb.size;omega
     · have:=hlt' g hm;omega
theorem ξcq {P:Program} {ops:Array Oper} {rest:List Oper} {o:Oper} {a:Act} {Q:Exit→Act→World→Prop} {w w2:World} (hgd:o.guard=none) (s x:Operand) (t e:TypeId)
 (ho:o.op= .call {callee:= .builtin .append,args:=#[s,x],argTypes:=#[t,t]}) (ht:P.underlying t=some (.slice e)) (z:Value) (size bytes:Nat)
 (hinfo:(P.info? e).map (fun i=>(i.zero,i.size,i.bytes))=some (some z,size,bytes)) (hzs:z.cells.size=size) (hsz:0<size) (hby:bytes≤1000)
 (base n:Nat) (v:Value) (ds ds':List Dt) (hs:a.eval s=v) (hG:Grw w base e size v n ds) (hbb:base≤w.heap.size) (hb:Below w.heap.size w w2)
 (news:List Value) (hN:Newd w2 w.heap.size news ds') (hnl:news.length=size) (h1:∀u∈news,u.oneCell'=true) (hx:a.eval x= .slice (some ⟨w2.heap.size,0,none⟩) 1 1) (hn:n≤1000000)
 (h:∀v' w3,Grw w3 base e size v' (n+1) (ds++ds')→w2.grownBy w3 v.ownBlock→(∀g,v'.ownBlock=some g→v.ownBlock=some g∨w2.heap.size≤g)→wpList P ops Q rest (a.put o.dst v') w3):
 wpList P ops Q (o::rest) a (w2.alloc (.cells news.toArray e)):=by
 obtain⟨i0,hi,hz0,hz1,hz2⟩:=info_parts hinfo
 obtain⟨us,fs,r1,r2,r3,r4,r5,r6,r7⟩:=hG
 have hr2:(w2.alloc (.cells news.toArray e)).ownsRow base e size v n us:=by
  have hq:w2.ownsRow base e size v n us:=by
   refine⟨r1.1,?_⟩
   rcases r1.2 with h | ⟨g,cap,cur,rfl,q1,q2,q3⟩
   · exact .inl h
   · exact .inr ⟨g,cap,cur,rfl,q1,by rw[hb.block g (ξa q2).1];exact q2,q3⟩
  exact hq.alloc _
 have hblk:=ξn w2 (.cells news.toArray e)
 refine wpList_append_lies _ hgd s x t ho base e i0 z size bytes ht hi hz0 hz1 hz2 hzs hsz v n us hs hr2 ⟨w2.heap.size,0,none⟩ 1 1 news hx (by omega) (fun j u hu=>World.news_of_block hblk j u (by simpa using hu)) h1 (by omega) (by unfold maxLen;omega) ?_ (ξs (ξs hbb hb.size) (by simp)) _ rfl ?_
 · have:(n+1)*bytes≤1000001*1000:=Nat.mul_le_mul (by omega) hby
   omega
 · intro g cap w3 g1 g2 g3 _
   have hgr:w2.grownBy w3 v.ownBlock:=⟨g2.os,g2.tape,g2.output,ξs (by simp) g2.size,fun k hk hne=>by
    rw[g2.block k (by simp;omega) hne];exact heap_alloc_old w2 _ hk⟩
   have hlie:v.ownBlock=some g∨w2.heap.size≤g:=by
    rcases g3 with e | e
    · exact .inl e
    · exact .inr (by rw[e];simp)
   refine h _ w3 (Grw.pushed r2 r3 r4 r5 r6 r7 (fun g hg=>(r1.lt g hg).2) hbb hb hN g1 hgr hlie) hgr (fun g' hg'=> ?_)
   have:g=g':=by simpa[Value.ownBlock] using hg'
   rw[←this];exact hlie
open Go.RowKit Go.Sort
set_option maxRecDepth 100000
def LwP (w:World) (e:Ending) (w':World):Prop:=e= .returned (.bool true)∧Below w.heap.size w w'
theorem LwP.mk {w w':World} (h:Below w.heap.size w w'):LwP w (.returned (.bool true)) w':=⟨rfl,h⟩
theorem ofr_sl {w:World} {b:Nat} {v:Value} {xs:List Int} (h:Ofr w b (inD xs) v):∃a m c,v= .slice a m c∧xs.length=m∧Rd w (.slice a m c) xs:=by
 have hr:=h.own.rd
 obtain⟨a,c,m,HM,rfl,-,-,-⟩:=hr.opn
 exact⟨a,m,c,rfl,HM.out,hr⟩
open Go.RowKit Go.Sort Go.Lib
def srt (xs:List Int):List Int:=xs.mergeSort fun x y=>decide (x≤y)
def cpt (xs:List Int):List Int:=Go.Lib.compact xs
def ust (xs:List Int):List Int:=cpt (srt xs)
theorem srt_len (xs:List Int):(srt xs).length=xs.length:=List.length_mergeSort _
theorem srt_mem {xs:List Int} {x:Int} :x∈srt xs↔x∈xs:=List.mem_mergeSort
theorem srt_sorted (xs:List Int):(srt xs).Pairwise (· ≤·):=by
 have:=List.pairwise_mergeSort (le:=fun x y:Int=>decide (x≤y)) (fun a b c h1 h2=>by simp at h1 h2 ⊢;omega) (fun a b=>by simp;omega) xs
 exact this.imp fun h=>by simpa using h
theorem cpt_len (xs:List Int):(cpt xs).length≤xs.length:=by
 unfold cpt compact compactUpTo
 rw[List.length_map]
 exact ξs (List.length_filter_le _ _) (by simp)
theorem getI {xs:List Int} {j:Nat} (h:j<xs.length):(xs.toArray)[j]! = xs[j]:=by simp[h]
theorem cpt_asc {xs:List Int} (h:xs.Pairwise (· ≤·)):(cpt xs).Pairwise (· < ·):=by
 unfold cpt compact compactUpTo
 rw[List.pairwise_map]
 have hr:((List.range xs.length).filter (keeps xs.toArray)).Pairwise (· < ·):=List.Pairwise.filter _ List.pairwise_lt_range
 refine hr.imp_of_mem (R:=(· < ·)) fun {a b} ha hb hab=> ?_
 rw[List.mem_filter,List.mem_range] at ha hb
 rw[getI ha.1,getI hb.1]
 have hk:=hb.2
 unfold keeps at hk
 simp only[decide_eq_true_eq] at hk
 rcases hk with hk | hk
 · omega
 rw[getI hb.1,getI (show b-1<xs.length by omega)] at hk
 have hp:=List.pairwise_iff_getElem.1 h
 have h1:xs[a]≤xs[b-1]'(by omega):=by
  by_cases e:a=b-1
  · subst e;exact Int.le_refl _
  · exact hp a (b-1) ha.1 (by omega) (by omega)
 have h2:xs[b-1]'(by omega)≤xs[b]:=hp (b-1) b (by omega) hb.1 (by omega)
 omega
theorem cpt_mem {xs:List Int} {x:Int} :x∈cpt xs↔x∈xs:=by
 unfold cpt compact compactUpTo
 rw[List.mem_map]
 constructor
 · rintro⟨j,hj,rfl⟩
   rw[List.mem_filter,List.mem_range] at hj
   rw[getI hj.1]
   exact ξj hj.1
 · intro h
   obtain⟨j,hj,rfl⟩:=List.mem_iff_getElem.1 h
   have:∀j,∀hj:j<xs.length,∃i,∃hi:i<xs.length,keeps xs.toArray i=true∧xs[i]=xs[j]:=by
    intro j
    induction j with
    | zero=>intro hj;exact⟨0,hj,by simp[keeps],rfl⟩
    | succ j ih=>
      intro hj
      by_cases e:xs[j+1]=xs[j]'(by omega)
      · obtain⟨i,hi,h1,h2⟩:=ih (by omega)
        exact⟨i,hi,h1,by rw[h2,e]⟩
      · refine⟨j+1,hj,?_,rfl⟩
        unfold keeps
        rw[getI hj,getI (show j+1-1<xs.length by omega)]
        simp only[decide_eq_true_eq]
        exact .inr (by simpa using e)
   obtain⟨i,hi,h1,h2⟩:=this j hj
   exact⟨i,List.mem_filter.2 ⟨List.mem_range.2 hi,h1⟩,by rw[getI hi,h2]⟩
theorem ust_asc (xs:List Int):(ust xs).Pairwise (· < ·):=cpt_asc (srt_sorted xs)
theorem ξb3 {xs:List Int} {x:Int} :x∈ust xs↔x∈xs:=by unfold ust;rw[cpt_mem,srt_mem]
theorem ust_len (xs:List Int):(ust xs).length≤xs.length:=by unfold ust;exact ξs (cpt_len _) (by rw[srt_len];exact ξr _)
theorem asc_ext:∀{xs ys:List Int},xs.Pairwise (· < ·)→ys.Pairwise (· < ·)→(∀x,x∈xs↔x∈ys)→xs=ys
 | [],[],_,_,_=>rfl
 | [],y::ys,_,_,h=>by have:=(h y).2 (by simp);cases this
 | x::xs,[],_,_,h=>by have:=(h x).1 (by simp);cases this
 | x::xs,y::ys,hx,hy,h=>by
   obtain⟨hx1,hx2⟩:=List.pairwise_cons.1 hx
   obtain⟨hy1,hy2⟩:=List.pairwise_cons.1 hy
   have e:x=y:=by
    have h1:=(h x).1 (by simp)
    have h2:=(h y).2 (by simp)
    rcases List.mem_cons.1 h1 with e | e
    · exact e
    · rcases List.mem_cons.1 h2 with e2 | e2
      · exact e2.symm
      · have:=hy1 x e;have:=hx1 y e2;omega
   subst e
   congr 1
   refine asc_ext hx2 hy2 fun z=> ?_
   constructor
   · intro hz
     have hlt:=hx1 z hz
     rcases List.mem_cons.1 ((h z).1 (List.mem_cons_of_mem _ hz)) with e | e
     · omega
     · exact e
   · intro hz
     have hlt:=hy1 z hz
     rcases List.mem_cons.1 ((h z).2 (List.mem_cons_of_mem _ hz)) with e | e
     · omega
     · exact e
theorem ust_of {xs ys:List Int} (h:ys.Pairwise (· < ·)) (hm:∀x,x∈ys↔x∈xs):ust xs=ys:=asc_ext (ust_asc xs) h fun x=>by rw[ξb3,hm]
/-! ### The cells -/
theorem Own.holds {w:World} {base g off n cap:Nat} {xs:List Int} (h:Own w base (.slice (some ⟨g,off,none⟩) n cap) xs):Holds (Value.int .i64) w g off xs.toArray:=by
 rcases h with ⟨e,_⟩ | ⟨g',off',cap',cur,e,hb,⟨T,hg⟩,h1,h2,h3,h4⟩
 · cases e
 · simp only[Value.slice.injEq,Option.some.injEq,Addr.mk.injEq,and_true] at e
   obtain⟨⟨rfl,rfl⟩,rfl,rfl⟩:=e
   intro j hj
   have hj':j<xs.length:=by simpa using hj
   refine⟨?_,ξz _ _ _ _ _ hg⟩
   rw[cell_of_row _ _ _ _ _ _ hg,←Array.getElem?_toList]
   have e:((cur.toList.drop off).take xs.length)[j]?= (ints xs)[j]?:=by rw[h4]
   rw[List.getElem?_take,if_pos hj',List.getElem?_drop] at e
   rw[e]
   simp[hj']
theorem heap_putRow {w:World} {g off n:Nat} {os:Array Obj} {cur:Array Value} {e:TypeId} {fr:Nat × Nat} (d:Array Int) (hb:w.heap[g]?= some (.cells cur e fr)):
 (grow (putRow (Value.int .i64) (Sort.ahead w n) g off d) os).heap[g]?= some (.cells (putCells (Value.int .i64) off d cur) e fr):=by
 have hg:g<w.heap.size:=(ξa hb).1
 rw[heap_grow_old _ _ (by simpa using hg)]
 simp[putRow,mapBlock,Sort.ahead,Array.getElem?_modify,hb,onCells]
theorem ξbV {w:World} {g off n:Nat} {os:Array Obj} (d:Array Int):w.grownBy (grow (putRow (Value.int .i64) (Sort.ahead w n) g off d) os) (some g):=by
 refine⟨rfl,rfl,rfl,by simp,fun k hk hne=> ?_⟩
 rw[heap_grow_old _ _ (by simpa using hk)]
 have:g≠k:=fun e=>hne (by rw[e])
 simp[putRow,mapBlock,Sort.ahead,Array.getElem?_modify,this]
theorem drop_putCells (cur:Array Value) (ts:List Int) (off m:Nat) (h:off+ts.length≤cur.size) (hm:m≤ts.length):((putCells (Value.int .i64) off ts.toArray cur).toList.drop off).take m=ints (ts.take m):=by
 apply List.ext_getElem?
 intro j
 by_cases hj:j<m
 · rw[List.getElem?_take_of_lt hj,List.getElem?_drop,Array.getElem?_toList]
   simp[putCells,hj,show off+j<cur.size by omega,show j<ts.length by omega]
 · rw[List.getElem?_take_eq_none (by omega),List.getElem?_eq_none (by simp;omega)]
theorem Own.putRow {w:World} {base g off n cap q m:Nat} {xs ts:List Int} {os:Array Obj} (h:Own w base (.slice (some ⟨g,off,none⟩) n cap) xs) (hl:ts.length=xs.length) (hm:m≤ts.length):
 Own (grow (Sort.putRow (Value.int .i64) (Sort.ahead w q) g off ts.toArray) os) base (.slice (some ⟨g,off,none⟩) m cap) (ts.take m):=by
 rcases h with ⟨e,_⟩ | ⟨g',off',cap',cur,e,hb,⟨T,hg⟩,h1,h2,h3,h4⟩
 · cases e
 · simp only[Value.slice.injEq,Option.some.injEq,Addr.mk.injEq,and_true] at e
   obtain⟨⟨rfl,rfl⟩,rfl,rfl⟩:=e
   have hml:(ts.take m).length=m:=by rw[List.length_take];omega
   refine .inr ⟨g,off,cap,_,by rw[hml],hb,⟨T,heap_putRow _ hg⟩,by rw[hml];omega,h2,by simp[putCells];omega,?_⟩
   rw[hml]
   exact drop_putCells cur ts off m (by omega) hm
def letB (c:UInt8):Bool:=decide (97≤(c.toNat:Int))&&decide ((c.toNat:Int)≤122)
def digB (c:UInt8):Bool:=decide (48≤(c.toNat:Int))&&decide ((c.toNat:Int)≤57)
def sgnB (c:UInt8):Bool:=letB c || digB c
def hd0 (s:ByteArray):Bool:=match s.data.toList with | []=>false | c::_=>letB c
def ξan (s:ByteArray):Bool:=decide (1≤s.size)&&decide (s.size≤8)&&hd0 s&&s.data.toList.all sgnB
theorem nam_snoc (s:ByteArray) (k:Nat) (h:k<s.size):s.data.toList.take (k+1)=s.data.toList.take k++[s[k]]:=by
 rw[List.take_succ_eq_append_getElem (by simpa using h)];rfl
theorem nam_all (s:ByteArray):s.data.toList.take s.size=s.data.toList:=List.take_of_length_le (by simp)
theorem nam_step {s:ByteArray} {p:UInt8→Bool} {k:Nat} (hk:k<s.size) (h:(s.data.toList.take k).all p=true) (e:p s[k]=true):(s.data.toList.take (k+1)).all p=true:=by
 rw[nam_snoc s k hk,List.all_append,h];simp[e]
theorem nam_no {s:ByteArray} {p:UInt8→Bool} {k:Nat} (hk:k<s.size) (e:p s[k]=false):s.data.toList.all p=false:=by
 rw[List.all_eq_false]
 exact⟨s[k],by rw[List.mem_iff_getElem];exact⟨k,by simpa using hk,rfl⟩,by simp[e]⟩
theorem hd0_of {s:ByteArray} (h:0<s.size):hd0 s=letB s[0]:=by
 have e:s[0]=s.data.toList[0]'(by simpa using h):=rfl
 rw[e]
 unfold hd0
 split
 · rename_i he
   have h3:s.data.toList.length=s.size:=by simp
   rw[he,List.length_nil] at h3
   omega
 · rename_i c l he
   simp[he]
theorem nameOk_sgn {s:ByteArray} (h:s.data.toList.all sgnB=false):ξan s=false:=by unfold ξan;rw[h];simp
theorem nameOk_hd {s:ByteArray} (h:hd0 s=false):ξan s=false:=by unfold ξan;rw[h];simp
theorem nameOk_len {s:ByteArray} (h:¬(1≤s.size∧s.size≤8)):ξan s=false:=by
 unfold ξan
 by_cases h1:1≤s.size
 · rw[ξf (show¬s.size≤8 by omega)];simp
 · rw[ξf h1];simp
theorem nameOk_yes {s:ByteArray} (h:1≤s.size∧s.size≤8) (h2:hd0 s=true) (h3:s.data.toList.all sgnB=true):ξan s=true:=by
 unfold ξan;rw[h2,h3,ξt h.1,ξt h.2];rfl
section
variable {α : Type}
def fltC (enc:α→List Value) (zs:List α):List Dt:=zs.flatMap fun z=>(enc z).map Dt.leaf
def flt (m:Nat) (enc:α→List Value) (zs:List α):Dt:= .rows m (fltC enc zs)
theorem ξab {enc:α→List Value} {m:Nat} (hm:∀z,(enc z).length=m) (zs:List α):(fltC enc zs).length=zs.length*m:=by
 induction zs with
 | nil=>simp[fltC]
 | cons z zs ih=>
   simp only[fltC,List.flatMap_cons,ξk,List.length_map,hm,List.length_cons] at ih ⊢
   rw[ih,Nat.add_mul,Nat.one_mul,Nat.add_comm]
theorem ξaR {enc:α→List Value} {m:Nat} (hm:∀z,(enc z).length=m) (zs:List α) (i r:Nat) (hr:r<m):(fltC enc zs)[i*m+r]?= (zs[i]?).bind fun z=>((enc z)[r]?).map Dt.leaf:=by
 induction zs generalizing i with
 | nil=>simp[fltC]
 | cons z zs ih=>
   have hl:((enc z).map Dt.leaf).length=m:=by simp[hm]
   simp only[fltC,List.flatMap_cons] at ih ⊢
   rcases i with _ | i
   · rw[Nat.zero_mul,Nat.zero_add,List.getElem?_append_left (by omega)]
     simp
   · rw[List.getElem?_append_right (by rw[hl,Nat.add_mul];omega),hl,show(i+1)*m+r-m=i*m+r by rw[Nat.add_mul];omega,ih i]
     simp
theorem fltC_cell {enc:α→List Value} {m:Nat} (hm:∀z,(enc z).length=m) (nil:α) (zs:List α) (i r:Nat) (u:Value) (hi:i<zs.length) (hu:(enc (zs[i]?.getD nil))[r]?= some u):(fltC enc zs)[i*m+r]?= some (.leaf u):=by
 have hr:r<m:=by rw[←hm (zs[i]?.getD nil)];exact(ξl hu).1
 rw[ξaR hm zs i r hr]
 rw[ξg hi] at hu ⊢
 simp only[Option.getD_some] at hu
 simp[hu]
theorem ξC {enc:α→List Value} {m:Nat} {w:World} {v:Value} {zs:List α} (hm:∀z,(enc z).length=m) (hm0:0<m) (nil:α) (h:Rdt w (flt m enc zs) v):
 ∃a n cap,v= .slice a n cap∧Hid (zs.length=n)∧n≤cap∧n≤9223372036854775807∧
 (0<n→ ∃b off,a=some ⟨b,off,none⟩∧b<w.heap.size∧ ∀i,i<n→ ∀r u,(enc (zs[i]?.getD nil))[r]?= some u→w.cell? ⟨b,off+i*m+r,none⟩=some u):=by
 obtain⟨a,n,cap,hv,HN,h1,h2,h3⟩:=h.opn
 have hn:zs.length=n:=by
  have:=HN.out
  rw[ξab hm] at this
  exact Nat.eq_of_mul_eq_mul_right hm0 this
 refine⟨a,n,cap,hv,hn,h1,h2,fun h0=> ?_⟩
 obtain⟨b,off,ea,hb,hc⟩:=h3 h0
 refine⟨b,off,ea,hb,fun i hi r u hu=> ?_⟩
 obtain⟨u',k1,k2⟩:=hc (i*m+r) (.leaf u) (fltC_cell hm nil zs i r u (by omega) hu)
 rw[Nat.add_assoc,k1,k2.leaf_inv]
theorem Ofr.of_row {w:World} {base m n:Nat} {T:TypeId} {v:Value} {us:List Value} (h:w.ownsRow base T m v n us):Ofr w base (.rows m (us.map Dt.leaf)) v:=by
 refine Grw.ofr (T:=T) (n:=n) ⟨us,List.replicate us.length [],h,by simp,by simp,fun j d u f e1 e2 e3=> ?_,by simp,by simp,by simp⟩
 rw[List.getElem?_map,e2] at e1
 simp at e1
 subst e1
 have:f=[]:=by
  have:=List.mem_of_getElem? e3
  exact List.eq_of_mem_replicate this
 subst this
 exact .leaf _
theorem ξbY {enc:α→List Value} {w:World} {base m n:Nat} {T:TypeId} {v:Value} {zs:List α} (h:w.ownsRow base T m v n (zs.flatMap enc)):Ofr w base (flt m enc zs) v:=by
 have:=Ofr.of_row h
 rw[List.map_flatMap] at this
 exact this
end
def nilS:ByteArray:=⟨#[]⟩
def strE (s:ByteArray):List Value:=[.string s]
def plc (ns:List ByteArray) (x:ByteArray):Int:=match ns.findIdx? (fun s=>s.toList==x.toList) with | some i=>(i:Int) | none=> -1
theorem plc_none {ns:List ByteArray} {x:ByteArray} (h:ns.any (fun s=>s.toList==x.toList)=false):plc ns x= -1:=by
 unfold plc
 rw[List.findIdx?_eq_none_iff.2 fun s hs=>by
  have:=(List.any_eq_false.1 h) s hs
  simpa using this]
theorem plc_some {ns:List ByteArray} {x:ByteArray} {k:Nat} (hk:k<ns.length) (h:(ns.take k).any (fun s=>s.toList==x.toList)=false) (e:((ns[k]?.getD nilS).toList==x.toList)=true):plc ns x=(k:Int):=by
 rw[ξg hk] at e
 unfold plc
 rw[List.findIdx?_eq_some_iff_getElem.2 ⟨hk,by simpa using e,fun j hj=>by
  have:=(List.any_eq_false.1 h) (ns[j]'(by omega)) (List.mem_take_iff_getElem.2 ⟨j,by omega,rfl⟩)
  simpa using this⟩]
theorem any_more {ns:List ByteArray} {x:ByteArray} {k:Nat} (hk:k<ns.length) (h:(ns.take k).any (fun s=>s.toList==x.toList)=false) (e:((ns[k]?.getD nilS).toList==x.toList)=false):(ns.take (k+1)).any (fun s=>s.toList==x.toList)=false:=by
 rw[ξg hk] at e
 rw[List.take_add_one,List.any_append,h,ξg hk]
 simpa using e
theorem l2Find_any (v:Value) (ns:List ByteArray) (x:ByteArray) (w:World) (h:Rdt w (flt 1 strE ns) v):
 Calls Tryz.prog 169 #[v,.string x] w fun e w'=>e= .returned (.int .i64 (plc ns x))∧w=w':=by
 obtain⟨a,n,cap,rfl,HN,_,hnl,ha⟩:=ξC (m:=1) (enc:=strE) (fun _=>rfl) (by omega) nilS h
 have HA:=ξh ha
 have HP:=ξh (fun k (hk:k<ns.length)=>@plc_some ns x k hk)
 have HM:=ξh (fun k (hk:k<ns.length)=>@any_more ns x k hk)
 have HO:=ξh (@plc_none ns x)
 clear ha h
 generalize plc ns x=r at *
 go_enter Tryz.func169,Tryz.ntmps169
 go_wp2
 go_loop [5] (fun i=>∃k:Nat,k≤n∧i= .int .i64 k∧Hid ((ns.take k).any (fun s=>s.toList==x.toList)=false)) (fun i=>n-(intOf i).toNat)
 case atStart=>exact⟨0,ξu _,rfl,by simp[Hid]⟩
 case round=>
  obtain⟨k,hk,rfl,HT⟩:=hrel
  by_cases hlt:k<n
  · have hltI:(k:Int)<(n:Int):=by omega
    have hkx:k<ns.length:=by rw[HN.out];exact hlt
    obtain⟨b,off,rfl,hbs,hcs⟩:=HA.out (by omega)
    have hc0:=hcs k hlt 0 _ rfl
    rw[Nat.mul_one,Nat.add_zero] at hc0
    have HP1:=ξh (HP.out k hkx HT.out)
    have HM1:=ξh (HM.out k hkx HT.out)
    clear hcs hkx
    generalize ns[k]?.getD nilS=s at *
    by_cases he:(s.toList==x.toList)=true
    · have HE:=ξh (HP1.out he)
      go_wp2
      go_ret
      exact⟨by rw[HE.out];rfl,rfl⟩
    · have he:(s.toList==x.toList)=false:=by simpa using he
      have HE:=ξh (HM1.out he)
      go_wp2
      go_round
      case rel=>exact⟨k+1,by omega,by go_num,HE.out⟩
      case measure=>simp[intOf];omega
  · obtain rfl:k=n:=by omega
    have hall:=HT.out
    rw[←HN.out,List.take_length] at hall
    have HE:=ξh (HO.out hall)
    clear hall
    go_wp2
    go_ret
    exact⟨by rw[HE.out];rfl,rfl⟩
theorem indexS_any (v:Value) (ns:List ByteArray) (x:ByteArray) (w:World) (h:Rdt w (flt 1 strE ns) v):
 Calls Tryz.prog 172 #[v,.string x] w fun e w'=>e= .returned (.int .i64 (plc ns x))∧w=w':=by
 obtain⟨a,n,cap,rfl,HN,_,hnl,ha⟩:=ξC (m:=1) (enc:=strE) (fun _=>rfl) (by omega) nilS h
 have HA:=ξh ha
 have HP:=ξh (fun k (hk:k<ns.length)=>@plc_some ns x k hk)
 have HM:=ξh (fun k (hk:k<ns.length)=>@any_more ns x k hk)
 have HO:=ξh (@plc_none ns x)
 clear ha h
 generalize plc ns x=r at *
 go_enter Tryz.func172,Tryz.ntmps172
 go_wp2
 go_loop [5,8] (fun _ i=>∃k:Nat,k≤n∧i= .int .i64 k∧Hid ((ns.take k).any (fun s=>s.toList==x.toList)=false)) (fun _ i=>n-(intOf i).toNat)
 case atStart=>exact⟨0,ξu _,rfl,by simp[Hid]⟩
 case round=>
  obtain⟨k,hk,rfl,HT⟩:=hrel
  by_cases hlt:k<n
  · have hltI:(k:Int)<(n:Int):=by omega
    have hkx:k<ns.length:=by rw[HN.out];exact hlt
    obtain⟨b,off,rfl,hbs,hcs⟩:=HA.out (by omega)
    have hc0:=hcs k hlt 0 _ rfl
    rw[Nat.mul_one,Nat.add_zero] at hc0
    have HP1:=ξh (HP.out k hkx HT.out)
    have HM1:=ξh (HM.out k hkx HT.out)
    clear hcs hkx
    generalize ns[k]?.getD nilS=s at *
    by_cases he:(s.toList==x.toList)=true
    · have HE:=ξh (HP1.out he)
      have he2:(x.toList==s.toList)=true:=by rw[←he];exact BEq.comm
      go_wp2
      go_ret
      exact⟨by rw[HE.out];rfl,rfl⟩
    · have he:(s.toList==x.toList)=false:=by simpa using he
      have HE:=ξh (HM1.out he)
      have he2:(x.toList==s.toList)=false:=by rw[←he];exact BEq.comm
      go_wp2
      go_round
      case rel=>exact⟨k+1,by omega,by go_num,HE.out⟩
      case measure=>simp[intOf];omega
  · obtain rfl:k=n:=by omega
    have hall:=HT.out
    rw[←HN.out,List.take_length] at hall
    have HE:=ξh (HO.out hall)
    clear hall
    go_wp2
    go_ret
    exact⟨by rw[HE.out];rfl,rfl⟩
theorem containsS_any (v:Value) (ns:List ByteArray) (x:ByteArray) (w:World) (h:Rdt w (flt 1 strE ns) v):
 Calls Tryz.prog 129 #[v,.string x] w fun e w'=>e= .returned (.bool (decide (0≤plc ns x)))∧w=w':=by
 have HI:=ξh (indexS_any v ns x w h)
 generalize plc ns x=r at *
 obtain⟨a,n,cap,rfl,-,-,-,-⟩:=ξC (m:=1) (enc:=strE) (fun _=>rfl) (by omega) nilS h
 clear h
 go_enter Tryz.func129,Tryz.ntmps129
 go_wp2_with (go_at_call 172;refine(HI.out).mono ?_;rintro e w' ⟨rfl,rfl⟩)
 go_ret
 exact⟨rfl,rfl⟩
def inB (n lo hi:Int):Bool:=decide (lo≤n)&&decide (n≤hi)
theorem ξO {n lo hi:Int} (h:inB n lo hi=true):lo≤n∧n≤hi:=by simpa[inB] using h
theorem inB_mk {n lo hi:Int} (h:lo≤n) (h2:n≤hi):inB n lo hi=true:=by simp[inB,h,h2]
def m1 (a b:Nat):Nat→Nat
 | 0=>0
 | k+1=>if(b/2 ^ k)%2=1 then m1 a b k ^^^ (a*2 ^ k) else m1 a b k
def r1 (x:Nat):Nat→Nat
 | 0=>x
 | k+1=>if(r1 x k/2 ^ (6-k))%2=1 then r1 x k ^^^ (19*2 ^ (2-k)) else r1 x k
theorem ξE (n lo hi:Int) (w:World):Calls Tryz.prog 74 #[.int .i64 n,.int .i64 lo,.int .i64 hi] w fun e w'=>e= .returned (.bool (inB n lo hi))∧w=w':=by
 by_cases h1:lo≤n
 · have hd:decide (lo≤n)=true:=by simpa using h1
   go_enter Tryz.func74,Tryz.ntmps74
   go_wp2
   go_ret
   exact⟨by simp[inB,h1],rfl⟩
 · have hd:decide (lo≤n)=false:=by simpa using h1
   go_enter Tryz.func74,Tryz.ntmps74
   go_wp2
   go_ret
   exact⟨by rw[inB,hd];rfl,rfl⟩
theorem ξI (n lo hi:Int) (w:World):Calls Tryz.prog 77 #[.int .i64 n,.int .i64 lo,.int .i64 hi] w fun e w'=>e= .returned (.bool (inB n lo hi))∧w=w':=by
 by_cases h1:lo≤n
 · have hd:decide (lo≤n)=true:=by simpa using h1
   go_enter Tryz.func77,Tryz.ntmps77
   go_wp2
   go_ret
   exact⟨by simp[inB,h1],rfl⟩
 · have hd:decide (lo≤n)=false:=by simpa using h1
   go_enter Tryz.func77,Tryz.ntmps77
   go_wp2
   go_ret
   exact⟨by rw[inB,hd];rfl,rfl⟩
end Go.Proofs.YtofcicomhnkocaaGreat
