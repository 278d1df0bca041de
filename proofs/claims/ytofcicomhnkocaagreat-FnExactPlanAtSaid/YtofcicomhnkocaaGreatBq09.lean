/- Joined: XAlbP XAlbQ XAlbV XHld XHle XCpl. -/
import Derived.Test.YtofcicomhnkocaaGreatAls
import Derived.Test.YtofcicomhnkocaaGreatBq04
import Derived.Deep.MidRow
import Derived.Deep.Slices
import Derived.Laws.IdiomStrings
import Derived.Lib.ItoaNum
import Derived.Lib.QuietBelow
import Derived.Lib.SmallJoins
import Derived.OwnWalk
import Derived.ArgAppend
import Derived.BigQuiet
import Derived.Deep.AppendLies
import Derived.Deep.DeepFit
import Derived.Deep.DeepMust
import Derived.Deep.LoopGhost
import Derived.Deep.QuietTactic
import Derived.Deep.RegionHeld3
import Derived.Handy
import Derived.Lib.Hide
import Derived.Lib.SlicesCompact
import Derived.OpenShut
import Derived.Sort.OwnSortedInts
import Derived.StillTailTactics
import Derived.Test.YtofcicomhnkocaaGreatProg
import Derived.WalkKit
import Derived.WalkLawsBesides
import Derived.WalkSpells
import Derived.Deep.RegionLaw
import Derived.Laws.AppendOwnNone
import Derived.Test.YtofcicomhnkocaaGreatShelf
import Derived.Test.YtofcicomhnkocaaGreatBq02
import Derived.Test.YtofcicomhnkocaaGreatBq07
import Derived.Deep.Upon
import Derived.Lib.SliceRun
import Derived.Shelf.Spec.SlicesInsertGrow
set_option linter.unusedVariables false
namespace Go.Proofs.YtofcicomhnkocaaGreat
set_option maxHeartbeats 3200000
open Go.RowKit
def putI:List Int→Int→List Int
 | [],n=>[n]
 | x::xs,n=>if x<n then x::putI xs n else if x=n then x::xs else n::x::xs
theorem putI_mem:∀{xs:List Int} {n y:Int},y∈putI xs n↔y=n∨y∈xs
 | [],n,y=>by simp[putI]
 | x::xs,n,y=>by
   unfold putI
   split
   · rw[List.mem_cons,putI_mem,List.mem_cons]
     constructor
     · rintro(h | h | h) <;> simp[h]
     · rintro(h | h | h) <;> simp[h]
   · split
     · rename_i h;subst h;simp
     · simp
theorem putI_asc:∀{xs:List Int} {n:Int},xs.Pairwise (· < ·)→(putI xs n).Pairwise (· < ·)
 | [],n,_=>by simp[putI]
 | x::xs,n,h=>by
   obtain⟨h1,h2⟩:=List.pairwise_cons.1 h
   unfold putI
   split
   · rename_i hx
     refine List.pairwise_cons.2 ⟨fun y hy=> ?_,putI_asc h2⟩
     rcases putI_mem.1 hy with e | e
     · omega
     · exact h1 y e
   · split
     · exact h
     · rename_i hx hx2
       refine List.pairwise_cons.2 ⟨fun y hy=> ?_,h⟩
       rcases List.mem_cons.1 hy with e | e
       · omega
       · have:=h1 y e;omega
theorem putI_at:∀{xs:List Int} {n:Int} (k:Nat),k≤xs.length→(∀i,i<k→xs[i]?.getD 0<n)→(k<xs.length→n≤xs[k]?.getD 0)→putI xs n=if k<xs.length∧xs[k]?.getD 0=n then xs else xs.take k++n::xs.drop k
 | [],n,k,hk,_,_=>by
   have:k=0:=by simpa using hk
   subst this;simp[putI]
 | x::xs,n,0,_,_,h=>by
   have h0:=h (by simp)
   simp only[List.getElem?_cons_zero,Option.getD_some] at h0
   unfold putI
   rw[if_neg (by omega)]
   by_cases e:x=n
   · rw[if_pos e,if_pos ⟨by simp,by simpa using e⟩]
   · rw[if_neg e,if_neg (by simp;exact e)];simp
 | x::xs,n,k+1,hk,hl,h=>by
   have hx:x<n:=by have:=hl 0 (by omega);simpa using this
   unfold putI
   rw[if_pos hx,putI_at k (by simpa using hk) (fun i hi=>by have:=hl (i+1) (by omega);simpa using this) (fun hlt=>by have:=h (by simpa using hlt);simpa using this)]
   by_cases e:k<xs.length∧xs[k]?.getD 0=n
   · rw[if_pos e,if_pos ⟨by simpa using e.1,by simpa using e.2⟩]
   · rw[if_neg e,if_neg (fun h2=>e ⟨by simpa using h2.1,by simpa using h2.2⟩)];simp
theorem ust_put (r:List Int) (x:Int):ust (r++[x])=putI (ust r) x:=by
 refine ust_of (putI_asc (ust_asc r)) fun y=> ?_
 rw[putI_mem,ust_mem,List.mem_append]
 simp[or_comm]
/-! ### A list's law as one step of a drawn region -/
theorem upon_mono {P:Program} {o:Oper} {a:Act} {K K':Act→World→Prop} {Q Q':Exit→Act→World→Prop} (hK:∀a w,K a w→K' a w) (hQ:∀e a w,e≠ .normal→Q e a w→Q' e a w) {r} (h:o.upon P a K Q r):o.upon P a K' Q' r:=by
 unfold Oper.upon at h ⊢
 split at h
 all_goals first
  | exact hK _ _ h
  | exact hQ _ _ _ (by simp) h
  | exact h
  | (refine Calls.mono h ?_
     rintro e w' hh
     cases e
     · exact hK _ _ hh
     · exact hQ _ _ _ (by simp) hh
     · obtain⟨a2,w2,q⟩:=hh;exact⟨a2,w2,hQ _ _ _ (by simp) q⟩)
  | (refine Rows.mono h ?_
     intro v w' hh
     exact hK _ _ hh)
theorem step_of_list {P:Program} {ops:Array Oper} {o:Oper} {a:Act} {w:World} {K:Act→World→Prop} {Q:Exit→Act→World→Prop} {E:Prop} (hg:o.guard=none)
 (h:wpList P ops (fun e a' w'=>e= .normal∧K a' w') [o] a w):if Region.wanted o (yielded ops a.tmps)=true then Oper.wp P o a w K Q else E:=by
 have hw:Region.wanted o (yielded ops a.tmps)=true:=by simp[Region.wanted,hg]
 rw[if_pos hw]
 unfold wpList at h
 rw[if_pos hw] at h
 rcases h with h | ⟨-,a2,w2,h,-⟩
 · unfold Oper.wp at h ⊢
   refine upon_mono (fun a w hh=> ?_) (fun e a w hne hh=> ?_) h
   · unfold wpList at hh;exact hh.2
   · exact absurd hh.1 hne
 · cases h
/-! ### Rows made sets, one after the other -/
open Go.RowKit Go.Sort
set_option maxRecDepth 100000
theorem wpList_catA {P:Program} {ops:Array Oper} {rest:List Oper} {o:Oper} {a:Act} {Q:Exit→Act→World→Prop} {w:World} (hgd:o.guard=none) (s x:Operand) (T:TypeId)
 (ho:o.op= .call {callee:= .builtin .append,args:=#[s,x],argTypes:=#[T,T]}) (ht:P.underlying T=some (.slice 3))
 (hinfo:(P.info? 3).map (fun i=>(i.zero,i.size,i.bytes))=some (some (.int .i64 0),1,8))
 (base:Nat) (v:Value) (n:Nat) (xs:List Int) (hs:a.eval s=v) (hown:w.ownsRow base 3 1 v n (ints xs))
 (ao:Option Addr) (m c:Nat) (ys:List Int) (hx:a.eval x= .slice ao m c) (hm:ys.length=m) (hy:ao=none→m=0∧c=0) (hc:0<m→ ∃b off,ao=some ⟨b,off,none⟩∧ ∀j,j<m→w.cell? ⟨b,off+j,none⟩=some (.int .i64 (ys[j]?.getD 0))) (hn:n+m≤1000000) (hbase:base≤w.heap.size)
 (h:∀v' w',w'.ownsRow base 3 1 v' (n+m) (ints (xs++ys))→w.grownBy w' v.ownBlock→wpList P ops Q rest (a.put o.dst v') w'):
 wpList P ops Q (o::rest) a w:=by
 obtain⟨i0,hi,hz0,hz1,hz2⟩:=info_parts hinfo
 rcases ao with _ | ad
 · obtain⟨rfl,rfl⟩:=hy rfl
   have:ys=[]:=List.eq_nil_of_length_eq_zero hm
   subst this
   refine wpList_append_own_none hgd s x T ho base 3 i0 1 ht hi v n (ints xs) hs hown hx ?_
   exact h v w (by simpa using hown) ⟨rfl,rfl,rfl,ξr _,fun _ _ _=>rfl⟩
 · refine wpList_append_own _ hgd s x T ho base 3 i0 (.int .i64 0) 1 8 ht hi hz0 hz1 hz2 rfl (by decide) v n (ints xs) hs hown ad m c (ints ys) hx (by simpa using hm) ?_ (ints_oneCell _ _) (by unfold maxLen;omega) (by omega) hbase ?_
   · intro j u hu
     have hj:j<ys.length:=by have:=(ξl hu).1;simpa using this
     obtain⟨b,off,e1,e2⟩:=hc (by omega)
     simp only[Option.some.injEq] at e1
     subst e1
     have e:(⟨b,off,none⟩:Addr).add j=⟨b,off+j,none⟩:=by unfold Addr.add;split <;> simp_all
     rw[e,e2 j (by omega),←hu]
     simp[hj]
   · intro v' w' g1 g2 _
     exact h v' w' (by simpa[ints] using g1) g2
theorem putI_new {xs:List Int} {n:Int} {k:Nat} (hk:k≤xs.length) (hl:∀i,i<k→xs[i]?.getD 0<n) (hg:k<xs.length→n<xs[k]?.getD 0):putI xs n=xs.take k++[n]++xs.drop k:=by
 rw[putI_at k hk hl (fun h=>by have:=hg h;omega),if_neg (fun h=>by have:=hg h.1;omega)];simp
theorem putI_old {xs:List Int} {n:Int} {k:Nat} (hk:k<xs.length) (hl:∀i,i<k→xs[i]?.getD 0<n) (hg:xs[k]?.getD 0=n):putI xs n=xs:=by
 rw[putI_at k (Nat.le_of_lt hk) hl (fun h=>by omega),if_pos ⟨hk,hg⟩]
theorem one_cell {W:World} {c:Nat} {n:Int} (h:W.cell? ⟨c,0,none⟩=some (.int .i64 n)):∀j,j<1→W.cell? ⟨c,0+j,none⟩=some (.int .i64 (([n]:List Int)[j]?.getD 0)):=fun j hj=>by
 obtain rfl:j=0:=by omega
 exact h
section
variable {w : World} {X Y : Obj} {T : TypeId} {n : Int}
theorem own_made1:(w.drew.alloc (.cells #[] T)).ownsRow w.heap.size T 1 (.slice (some ⟨w.heap.size,0,none⟩) 0 0) 0 (ints []):=World.ownsRow_made w.drew #[] 0 (ξr _) (Nat.zero_le _) (by simp)
theorem own_made2:((w.drew.alloc (.cells #[] T)).alloc X).ownsRow w.heap.size T 1 (.slice (some ⟨w.heap.size,0,none⟩) 0 0) 0 (ints []):=own_made1.alloc _
theorem own_made3:((w.drew.alloc X).alloc (.cells #[] T)).ownsRow w.heap.size T 1 (.slice (some ⟨w.heap.size+1,0,none⟩) 0 0) 0 (ints []):=by
 have:=World.ownsRow_made (base:=w.heap.size) (e:=T) (size:=1) (w.drew.alloc X) #[] 0 (by simp) (Nat.zero_le _) (by simp)
 simpa using this
theorem bel1:Below w.heap.size w (w.drew.alloc X):=(ξb w.heap.size w).drew.alloc (ξr _) _
theorem bel2:Below w.heap.size w ((w.drew.alloc X).alloc Y):=bel1.alloc (by simp) _
theorem cn1:(w.alloc (.cells #[.int .i64 n] T)).cell? ⟨w.heap.size,0,none⟩=some (.int .i64 n):=by simp
theorem cn2:((w.drew.alloc X).alloc (.cells #[.int .i64 n] T)).cell? ⟨w.heap.size+1,0,none⟩=some (.int .i64 n):=by
 have:=cn1 (w:=w.drew.alloc X) (T:=T) (n:=n)
 simpa using this
theorem cn3:((w.drew.alloc (.cells #[.int .i64 n] T)).alloc Y).cell? ⟨w.heap.size,0,none⟩=some (.int .i64 n):=
 (World.cell?_of_block (heap_alloc_old _ Y (by simp))).trans (cn1 (w:=w.drew))
theorem size_alloc {B:Nat} (h:B≤w.heap.size):B≤(w.alloc X).heap.size:=ξs h (by simp)
theorem lt2:w.heap.size+1<((w.drew.alloc X).alloc Y).heap.size:=by simp
theorem lt3:w.heap.size<((w.drew.alloc X).alloc Y).heap.size:=by simp;omega
theorem ne2:some (w.heap.size+1)≠(Value.slice (some ⟨w.heap.size,0,none⟩) 0 0).ownBlock:=by simp[Value.ownBlock]
theorem ne3:some w.heap.size≠(Value.slice (some ⟨w.heap.size+1,0,none⟩) 0 0).ownBlock:=by simp[Value.ownBlock]
end
def PutP (u:Value) (xs:List Int) (n:Int) (base:Nat) (w:World) (e:Ending) (w':World):Prop:=∃v',e= .returned v'∧Own w' base v' (putI xs n)∧(∀k,v'.ownBlock=some k→u.ownBlock=some k∨w.heap.size≤k)∧Below w.heap.size w w'
theorem l1Put_any (u:Value) (xs:List Int) (n:Int) (base:Nat) (w:World) (h:Own w base u xs) (hb:base≤w.heap.size) (hl:xs.length≤1000):
 Calls Tryz.prog 107 #[u,.int .i64 n] w (PutP u xs n base w):=by
 obtain⟨a,cap,m,HM,rfl,hmc,hm63,ha⟩:=h.rd.opn
 have HO:=ξh h
 have HA:=ξh ha
 have HPN:=ξh (fun k h1 h2 h3=>@putI_new xs n k h1 h2 h3)
 have HPO:=ξh (fun k h1 h2 h3=>@putI_old xs n k h1 h2 h3)
 have HAN:=ξh (show(a=none∧m=0∧cap=0)∨ ∃g off,a=some ⟨g,off,none⟩ from by
  rcases h with ⟨e,_⟩ | ⟨g,off,cap',cur,e,_⟩
  · simp only[Value.slice.injEq] at e;exact .inl e
  · simp only[Value.slice.injEq] at e;exact .inr ⟨g,off,e.1⟩)
 have hm1:m≤1000:=by have:=HM.out;omega
 rw[HM.out] at HPN HPO
 generalize hp:putI xs n=ps at *
 have HP:=ξh hp
 clear hp h ha
 go_enter Tryz.func107,Tryz.ntmps107
 go_wp2
 go_loopw [5] (fun i wr=>∃k:Nat,k≤m∧i= .int .i64 k∧wr=w∧Hid (∀i,i<k→xs[i]?.getD 0<n)) (fun i _=>m-(intOf i).toNat)
 case atStart=>exact⟨0,Nat.zero_le _,rfl,rfl,fun i hi=>by omega⟩
 case round=>
  obtain⟨k,hk,rfl,rfl,HL⟩:=hrel
  by_cases hlt:k<m
  · have hltI:(k:Int)<(m:Int):=by omega
    obtain⟨b,off,rfl,hbs,hcs⟩:=HA.out (by omega)
    have c0:=hcs k hlt
    have HST:=ξh (fun(h:xs[k]?.getD 0<n)=>show∀i,i<k+1→xs[i]?.getD 0<n from fun i hi=>by
     rcases Nat.lt_or_ge i k with e | e
     · exact HL.out i e
     · have:i=k:=by omega
       rw[this];exact h)
    have HPN1:=ξh (HPN.out k hk HL.out)
    have HPO1:=ξh (HPO.out k hlt HL.out)
    have HC:=ξh hcs
    clear hcs
    generalize xs[k]?.getD 0=y at *
    cases hd:decide (y<n)
    case true=>
     have HS:=ξh (HST.out (by simpa using hd))
     go_wp2
     go_roundw
     case rel=>exact⟨k+1,hlt,by go_num,trivial,HS.out⟩
     case measure=>simp[intOf];omega
    have hyn:n≤y:=by simpa using hd
    by_cases he:y=n
    · have HE:=ξh (HPO1.out he)
      have hb1:(y==n)=true:=by simp[he]
      have hb2:decide (y=n)=true:=by simp[he]
      clear he hyn
      go_wp2
      go_ret
      exact⟨_,rfl,by rw[HP.out,HE.out];exact HO.out,fun k hk=> .inl hk,ξb _ _⟩
    · have HE:=ξh (HPN1.out (fun _=>by omega))
      have hb1:(y==n)=false:=by simp[he]
      have hb2:decide (y=n)=false:=by simp[he]
      clear he hyn
      go_wp2
      have HC0:=HC.out
      have HTL:=ξh (show(xs.take k).length=k by rw[List.length_take,HM.out];omega)
      have HDL:=ξh (show(xs.drop k).length=m-k by rw[List.length_drop,HM.out])
      have HTK:=ξh (fun(W:World) (hW:Below wr.heap.size wr W) j (hj:j<k)=>show W.cell? ⟨b,off+j,none⟩=some (.int .i64 ((xs.take k)[j]?.getD 0)) by
       rw[List.getElem?_take,if_pos hj];exact(hW.cell hbs).trans (HC0 j (by omega)))
      have HDK:=ξh (fun(W:World) (hW:Below wr.heap.size wr W) j (hj:j<m-k)=>show W.cell? ⟨b,off+k+j,none⟩=some (.int .i64 ((xs.drop k)[j]?.getD 0)) by
       rw[List.getElem?_drop,Nat.add_assoc];exact(hW.cell hbs).trans (HC0 (k+j) (by omega)))
      clear HC0
      generalize xs.take k=ts at *
      generalize xs.drop k=ds at *
      have hkc:¬cap=k:=by omega
      have i1:(0:Int)≤(k:Int):=by omega
      have i2:(k:Int)≤(cap:Int):=by omega
      have i3:k≤cap:=by omega
      have i4:(k:Int)≤(m:Int):=by omega
      have hck:¬cap-k=0:=by omega
      go_region_law (first
       | ((refine step_of_list rfl ?_);(go_loud (refine wpList_catA rfl (.tmp 33) (.tmp 36) 58 rfl Tryz.underlying58 Tryz.infoInt wr.heap.size _ 0 [] (by rfl) (by first | exact own_made1 | exact own_made2 | exact own_made3) _ k _ ts (by rfl) HTL.out (fun e=>by cases e) (fun _=>⟨b,off,rfl,HTK.out _ (by first | exact bel1 | exact bel2)⟩) (by omega) (by first | exact bel1.size | exact bel2.size) ?_));(intro v1 w1 o1 g1);(have B1:Below wr.heap.size wr w1:=Below.grown (by first | exact bel1 | exact bel2) g1 (by first | exact bel1.size | exact bel2.size) (fun q hq=>(by have hq2:=ξo hq;rw[←hq2];first | exact ξr _ | exact Nat.le_succ _)));(have NN1:=fun c h1 h2=>g1.cell_far ⟨c,0,none⟩ h1 h2);(unfold wpList);(refine⟨rfl,?_⟩))
       | ((refine step_of_list rfl ?_);(go_loud (refine wpList_catA rfl (.tmp 40) (.tmp 43) 58 rfl Tryz.underlying58 Tryz.infoInt wr.heap.size v2 (0+k+1) _ (by rfl) o2 _ (m-k) _ ds (by rfl) HDL.out (fun e=>by cases e) (fun _=>⟨b,off+k,rfl,HDK.out _ B2⟩) (by omega) B2.size ?_));(intro v3 w3 o3 g3);(have B3:Below wr.heap.size wr w3:=Below.grown B2 g3 B2.size (fun q hq=>(o2.lt q hq).1));(have O3:=own_of_row o3);(obtain⟨a3,c3,n3,-,rfl,-⟩:=O3.rd.opn);(unfold wpList);(refine⟨rfl,?_⟩))
       | ((refine step_of_list rfl ?_);(go_loud (refine wpList_catA rfl (.tmp 37) (.tmp 39) 58 rfl Tryz.underlying58 Tryz.infoInt wr.heap.size v1 (0+k) _ (by rfl) (by first | exact o1 | exact o1.alloc _) _ 1 _ [n] (by rfl) rfl (fun e=>by cases e) (fun _=>⟨_,0,rfl,one_cell (by first | exact cn1 | exact(NN1 _ lt2 ne2).trans cn2 | exact(NN1 _ lt3 ne3).trans cn3)⟩) (by omega) (by first | exact B1.size | exact size_alloc B1.size) ?_));(intro v2 w2 o2 g2);(have B2:Below wr.heap.size wr w2:=Below.grown (by first | exact B1 | exact B1.alloc B1.size _) g2 (by first | exact B1.size | exact size_alloc B1.size) (fun q hq=>(o1.lt q hq).1));(unfold wpList);(refine⟨rfl,?_⟩)))
      all_goals
       have OO:=ξh (O3.mono hb)
       have OL:=ξh (fun q hq=>(O3.lt q hq).1)
       have HB3:=ξh B3
       clear o3 O3 B3
       go_wp2
       go_ret
       exact⟨_,rfl,by rw[HP.out,HE.out];simpa using OO.out,fun q hq=> .inr (OL.out q hq),HB3.out⟩
  · obtain rfl:m=k:=by omega
    have HE:=ξh (HPN.out m (ξr _) HL.out (fun h=>absurd h (Nat.lt_irrefl m)))
    rw[List.take_of_length_le (Nat.le_of_eq HM.out),List.drop_of_length_le (Nat.le_of_eq HM.out)] at HE
    rcases HAN.out with ⟨rfl,rfl,rfl⟩ | ⟨b,off,rfl⟩
    · have HXE:=ξh (show xs=[] from List.eq_nil_of_length_eq_zero HM.out)
      rw[HXE.out] at HE
      go_wp2
      go_region_law (first
       | ((refine step_of_list rfl ?_);(go_loud (refine wpList_catA rfl (.tmp 33) (.tmp 36) 58 rfl Tryz.underlying58 Tryz.infoInt wr.heap.size _ 0 [] (by rfl) (by first | exact own_made1 | exact own_made2 | exact own_made3) none 0 0 [] (by rfl) rfl (fun _=>⟨rfl,rfl⟩) (fun h=>absurd h (Nat.lt_irrefl 0)) (by omega) (by first | exact bel1.size | exact bel2.size) ?_));(intro v1 w1 o1 g1);(have B1:Below wr.heap.size wr w1:=Below.grown (by first | exact bel1 | exact bel2) g1 (by first | exact bel1.size | exact bel2.size) (fun q hq=>(by have hq2:=ξo hq;rw[←hq2];first | exact ξr _ | exact Nat.le_succ _)));(have NN1:=fun c h1 h2=>g1.cell_far ⟨c,0,none⟩ h1 h2);(unfold wpList);(refine⟨rfl,?_⟩))
       | ((refine step_of_list rfl ?_);(go_loud (refine wpList_catA rfl (.tmp 40) (.tmp 43) 58 rfl Tryz.underlying58 Tryz.infoInt wr.heap.size v2 (0+0+1) _ (by rfl) o2 none 0 0 [] (by rfl) rfl (fun _=>⟨rfl,rfl⟩) (fun h=>absurd h (Nat.lt_irrefl 0)) (by omega) B2.size ?_));(intro v3 w3 o3 g3);(have B3:Below wr.heap.size wr w3:=Below.grown B2 g3 B2.size (fun q hq=>(o2.lt q hq).1));(have O3:=own_of_row o3);(obtain⟨a3,c3,n3,-,rfl,-⟩:=O3.rd.opn);(unfold wpList);(refine⟨rfl,?_⟩))
       | ((refine step_of_list rfl ?_);(go_loud (refine wpList_catA rfl (.tmp 37) (.tmp 39) 58 rfl Tryz.underlying58 Tryz.infoInt wr.heap.size v1 (0+0) _ (by rfl) (by first | exact o1 | exact o1.alloc _) _ 1 _ [n] (by rfl) rfl (fun e=>by cases e) (fun _=>⟨_,0,rfl,one_cell (by first | exact cn1 | exact(NN1 _ lt2 ne2).trans cn2 | exact(NN1 _ lt3 ne3).trans cn3)⟩) (by omega) (by first | exact B1.size | exact size_alloc B1.size) ?_));(intro v2 w2 o2 g2);(have B2:Below wr.heap.size wr w2:=Below.grown (by first | exact B1 | exact B1.alloc B1.size _) g2 (by first | exact B1.size | exact size_alloc B1.size) (fun q hq=>(o1.lt q hq).1));(unfold wpList);(refine⟨rfl,?_⟩)))
      all_goals
       have OO:=ξh (O3.mono hb)
       have OL:=ξh (fun q hq=>(O3.lt q hq).1)
       have HB3:=ξh B3
       clear o3 O3 B3
       go_wp2
       go_ret
       exact⟨_,rfl,by rw[HP.out,HE.out];simpa using OO.out,fun q hq=> .inr (OL.out q hq),HB3.out⟩
    · have HTK:=ξh (fun(h0:0<m) (W:World) (hW:Below wr.heap.size wr W)=>show∀j,j<m→W.cell? ⟨b,off+j,none⟩=some (.int .i64 (xs[j]?.getD 0)) from by
       obtain⟨b',off',e,hbs,hcs⟩:=HA.out h0
       simp only[Option.some.injEq,Addr.mk.injEq,and_true] at e
       obtain⟨rfl,rfl⟩:=e
       exact fun j hj=>(hW.cell hbs).trans (hcs j hj))
      have i1:(0:Int)≤(m:Int):=by omega
      have i2:(m:Int)≤(cap:Int):=by omega
      have i5:¬m<m:=by omega
      clear HA hlt HAN
      by_cases hcm:cap=m
      · obtain rfl:m=cap:=hcm.symm
        clear hcm
        go_wp2
        go_region_law (first
         | ((refine step_of_list rfl ?_);(go_loud (refine wpList_catA rfl (.tmp 33) (.tmp 36) 58 rfl Tryz.underlying58 Tryz.infoInt wr.heap.size _ 0 [] (by rfl) (by first | exact own_made1 | exact own_made2 | exact own_made3) _ m _ xs (by rfl) HM.out (fun e=>by cases e) (fun h0=>⟨b,off,rfl,HTK.out h0 _ (by first | exact bel1 | exact bel2)⟩) (by omega) (by first | exact bel1.size | exact bel2.size) ?_));(intro v1 w1 o1 g1);(have B1:Below wr.heap.size wr w1:=Below.grown (by first | exact bel1 | exact bel2) g1 (by first | exact bel1.size | exact bel2.size) (fun q hq=>(by have hq2:=ξo hq;rw[←hq2];first | exact ξr _ | exact Nat.le_succ _)));(have NN1:=fun c h1 h2=>g1.cell_far ⟨c,0,none⟩ h1 h2);(unfold wpList);(refine⟨rfl,?_⟩))
         | ((refine step_of_list rfl ?_);(go_loud (refine wpList_catA rfl (.tmp 40) (.tmp 43) 58 rfl Tryz.underlying58 Tryz.infoInt wr.heap.size v2 (0+m+1) _ (by rfl) o2 _ 0 _ [] (by rfl) rfl (fun e=>by cases e) (fun h=>absurd h (Nat.lt_irrefl 0)) (by omega) B2.size ?_));(intro v3 w3 o3 g3);(have B3:Below wr.heap.size wr w3:=Below.grown B2 g3 B2.size (fun q hq=>(o2.lt q hq).1));(have O3:=own_of_row o3);(obtain⟨a3,c3,n3,-,rfl,-⟩:=O3.rd.opn);(unfold wpList);(refine⟨rfl,?_⟩))
         | ((refine step_of_list rfl ?_);(go_loud (refine wpList_catA rfl (.tmp 37) (.tmp 39) 58 rfl Tryz.underlying58 Tryz.infoInt wr.heap.size v1 (0+m) _ (by rfl) (by first | exact o1 | exact o1.alloc _) _ 1 _ [n] (by rfl) rfl (fun e=>by cases e) (fun _=>⟨_,0,rfl,one_cell (by first | exact cn1 | exact(NN1 _ lt2 ne2).trans cn2 | exact(NN1 _ lt3 ne3).trans cn3)⟩) (by omega) (by first | exact B1.size | exact size_alloc B1.size) ?_));(intro v2 w2 o2 g2);(have B2:Below wr.heap.size wr w2:=Below.grown (by first | exact B1 | exact B1.alloc B1.size _) g2 (by first | exact B1.size | exact size_alloc B1.size) (fun q hq=>(o1.lt q hq).1));(unfold wpList);(refine⟨rfl,?_⟩)))
        all_goals
         have OO:=ξh (O3.mono hb)
         have OL:=ξh (fun q hq=>(O3.lt q hq).1)
         have HB3:=ξh B3
         clear o3 O3 B3
         go_wp2
         go_ret
         exact⟨_,rfl,by rw[HP.out,HE.out];simpa using OO.out,fun q hq=> .inr (OL.out q hq),HB3.out⟩
      · have hck:¬cap-m=0:=by omega
        go_wp2
        go_region_law (first
         | ((refine step_of_list rfl ?_);(go_loud (refine wpList_catA rfl (.tmp 33) (.tmp 36) 58 rfl Tryz.underlying58 Tryz.infoInt wr.heap.size _ 0 [] (by rfl) (by first | exact own_made1 | exact own_made2 | exact own_made3) _ m _ xs (by rfl) HM.out (fun e=>by cases e) (fun h0=>⟨b,off,rfl,HTK.out h0 _ (by first | exact bel1 | exact bel2)⟩) (by omega) (by first | exact bel1.size | exact bel2.size) ?_));(intro v1 w1 o1 g1);(have B1:Below wr.heap.size wr w1:=Below.grown (by first | exact bel1 | exact bel2) g1 (by first | exact bel1.size | exact bel2.size) (fun q hq=>(by have hq2:=ξo hq;rw[←hq2];first | exact ξr _ | exact Nat.le_succ _)));(have NN1:=fun c h1 h2=>g1.cell_far ⟨c,0,none⟩ h1 h2);(unfold wpList);(refine⟨rfl,?_⟩))
         | ((refine step_of_list rfl ?_);(go_loud (refine wpList_catA rfl (.tmp 40) (.tmp 43) 58 rfl Tryz.underlying58 Tryz.infoInt wr.heap.size v2 (0+m+1) _ (by rfl) o2 _ 0 _ [] (by rfl) rfl (fun e=>by cases e) (fun h=>absurd h (Nat.lt_irrefl 0)) (by omega) B2.size ?_));(intro v3 w3 o3 g3);(have B3:Below wr.heap.size wr w3:=Below.grown B2 g3 B2.size (fun q hq=>(o2.lt q hq).1));(have O3:=own_of_row o3);(obtain⟨a3,c3,n3,-,rfl,-⟩:=O3.rd.opn);(unfold wpList);(refine⟨rfl,?_⟩))
         | ((refine step_of_list rfl ?_);(go_loud (refine wpList_catA rfl (.tmp 37) (.tmp 39) 58 rfl Tryz.underlying58 Tryz.infoInt wr.heap.size v1 (0+m) _ (by rfl) (by first | exact o1 | exact o1.alloc _) _ 1 _ [n] (by rfl) rfl (fun e=>by cases e) (fun _=>⟨_,0,rfl,one_cell (by first | exact cn1 | exact(NN1 _ lt2 ne2).trans cn2 | exact(NN1 _ lt3 ne3).trans cn3)⟩) (by omega) (by first | exact B1.size | exact size_alloc B1.size) ?_));(intro v2 w2 o2 g2);(have B2:Below wr.heap.size wr w2:=Below.grown (by first | exact B1 | exact B1.alloc B1.size _) g2 (by first | exact B1.size | exact size_alloc B1.size) (fun q hq=>(o1.lt q hq).1));(unfold wpList);(refine⟨rfl,?_⟩)))
        all_goals
         have OO:=ξh (O3.mono hb)
         have OL:=ξh (fun q hq=>(O3.lt q hq).1)
         have HB3:=ξh B3
         clear o3 O3 B3
         go_wp2
         go_ret
         exact⟨_,rfl,by rw[HP.out,HE.out];simpa using OO.out,fun q hq=> .inr (OL.out q hq),HB3.out⟩
section
variable {P : Program} {ops : Array Oper} {Q : Exit → Act → World → Prop} {md : Region.Mode} {S : World → Prop} {U : List Nat}
def lft (U:List Nat) (listed:Array Bool):Bool:=U.any fun k=>!listed.getD k true
def waits (md:Region.Mode) (ops:Array Oper) (U:List Nat) (listed:Array Bool) (i:Nat):Bool:=U.any fun m=>!listed.getD m true&&m != i&&((ops[m]?).map (·.after.any fun e=>Region.binds md e&&e.on==i)).getD false
theorem lft_of {listed:Array Bool} {m:Nat} (hm:m∈U) (hl:listed.getD m true=false):lft U listed=true:=by
 unfold lft
 exact List.any_eq_true.2 ⟨m,hm,by rw[hl];rfl⟩
theorem waits_iff {listed:Array Bool} {i:Nat} :waits md ops U listed i=true↔ ∃m om,m∈U∧ops[m]?= some om∧m≠i∧listed.getD m true=false∧ ∃e∈om.after,Region.binds md e=true∧e.on=i:=by
 unfold waits
 rw[List.any_eq_true]
 constructor
 · rintro⟨m,h1,h2⟩
   simp only[Bool.and_eq_true,Bool.not_eq_true',bne_iff_ne,ne_eq] at h2
   obtain⟨⟨h3,h4⟩,h5⟩:=h2
   cases ho:ops[m]? with
   | none=>rw[ho] at h5;cases h5
   | some om=>
     rw[ho] at h5
     obtain⟨e,he,hb⟩:=Array.any_eq_true'.1 (show om.after.any (fun e=>Region.binds md e&&e.on==i)=true from h5)
     simp only[Bool.and_eq_true,beq_iff_eq] at hb
     exact⟨m,om,h1,ho,h4,h3,e,he,hb.1,hb.2⟩
 · rintro⟨m,om,h1,ho,h4,h3,e,he,hb1,hb2⟩
   refine⟨m,h1,?_⟩
   simp only[Bool.and_eq_true,Bool.not_eq_true',bne_iff_ne,ne_eq]
   refine⟨⟨h3,h4⟩,?_⟩
   rw[ho]
   show om.after.any (fun e=>Region.binds md e&&e.on==i)=true
   exact Array.any_eq_true'.2 ⟨e,he,by simp[hb1,hb2]⟩
def wpAnyL (P:Program) (md:Region.Mode) (ops:Array Oper) (U:List Nat) (Q:Exit→Act→World→Prop) (S:World→Prop):Nat→Array Bool→Act→World→Prop
 | 0,listed,a,w=>Region.ready md ops listed=[]∧Q .normal a w
 | fuel+1,listed,a,w=>
   (Region.ready md ops listed=[]→Q .normal a w)∧
   ∀i∈Region.ready md ops listed,wpOp P ops Q i (fun a' w'=>(lft U (listed.setIfInBounds i true)=true→S w')∧wpAnyL P md ops U Q S fuel (listed.setIfInBounds i true) a' w') a w
theorem wpAny_of_L:∀(fuel:Nat) (listed:Array Bool) (a:Act) (w:World),wpAnyL P md ops U Q S fuel listed a w→wpAny P md ops Q fuel listed a w
 | 0,_,_,_,h=>h
 | fuel+1,_,_,_,h=>⟨h.1,fun i hi=>wpOp_mono (fun a' w' h'=>wpAny_of_L fuel _ a' w' h'.2) (h.2 i hi)⟩
theorem wpAnyL_first {i:Nat} {oi:Oper} {v:Value} (hi:ops[i]?= some oi) (hsel:∀(j:Nat) (o:Oper) cs b,ops[j]?= some o→o.op≠ .select cs b)
 (hQ:∀c a w,Q (.panic c) (a.put oi.dst v) w→Q (.panic c) a w):
 ∀(fuel:Nat) (listed:Array Bool) (a:Act) (w:World),
  (∀j oj,ops[j]?= some oj→j≠i→listed.getD j true=false→(∀e∈oj.after,Region.binds md e=true→e.on≠i)→oi.apart ops oj=true)→
  i∈Region.ready md ops listed→waits md ops U listed i=true→YieldsIf P ops S oi v a→S w→
  wpAnyL P md ops U Q S fuel (listed.setIfInBounds i true) (a.put oi.dst v) w→wpAnyL P md ops U Q S (fuel+1) listed a w:=by
 intro fuel
 induction fuel with
 | zero=>
   intro listed a w _ hr _ hy hS H
   refine⟨fun h=>(by rw[h] at hr;cases hr),fun j hj=> ?_⟩
   by_cases hji:j=i
   · subst hji;exact hy.wpOp hi hS ⟨fun _=>hS,H⟩
   · have:=ready_mono hj hji
     rw[H.1] at this
     cases this
 | succ fuel ih=>
   intro listed a w hfree hr hwt hy hS H
   refine⟨fun h=>(by rw[h] at hr;cases hr),fun j hj=> ?_⟩
   by_cases hji:j=i
   · subst hji;exact hy.wpOp hi hS ⟨fun _=>hS,H⟩
   · have h1:=H.2 j (ready_mono hj hji)
     obtain⟨hjun,oj,hoj,hall⟩:=mem_ready.1 hj
     have hnot:∀e∈oj.after,Region.binds md e=true→e.on≠i:=fun e he hb heq=>by
      have h1:=hall e he hb
      have h0:=(mem_ready.1 hr).1
      rw[heq] at h1
      rcases Nat.lt_or_ge i listed.size with h' | h'
      · simp[h'] at h0 h1;rw[h0] at h1;cases h1
      · simp[Array.getElem?_eq_none h'] at h1
     have h2:=wpOp_putIf hoj (hfree j oj hoj hji hjun hnot) (fun cs b=>hsel i oi cs b hi) (fun cs b=>hsel j oj cs b hoj) hQ hy h1
     have hfree':∀k ok,ops[k]?= some ok→k≠i→(listed.setIfInBounds j true).getD k true=false→
      (∀e∈ok.after,Region.binds md e=true→e.on≠i)→oi.apart ops ok=true:=fun k ok hk hki hun hno=>by
      refine hfree k ok hk hki ?_ hno
      by_cases hjk:j=k
      · subst hjk;exact hjun
      · rw[getD_set_ne true hjk] at hun;exact hun
     obtain⟨m,om,hmU,hom,hmi,hml,e,he,hb1,hb2⟩:=waits_iff.1 hwt
     have hmj:j≠m:=fun h=>by
      subst h
      rw[hoj] at hom
      cases hom
      exact hnot e he hb1 hb2
     have hml2:(listed.setIfInBounds j true).getD m true=false:=by rw[getD_set_ne true hmj];exact hml
     have hwt2:waits md ops U (listed.setIfInBounds j true) i=true:=waits_iff.2 ⟨m,om,hmU,hom,hmi,hml2,e,he,hb1,hb2⟩
     have hl2:lft U ((listed.setIfInBounds i true).setIfInBounds j true)=true:=
      lft_of hmU (by rw[getD_set_ne true hmj,getD_set_ne true (Ne.symm hmi)];exact hml)
     refine wpOp_mono (fun a' w' h3=>⟨fun _=>h3.2.1 hl2,ih (listed.setIfInBounds j true) a' w' hfree' (ready_mono hr (Ne.symm hji)) hwt2 h3.1 (h3.2.1 hl2) ?_⟩) h2
     rw[Array.setIfInBounds_comm _ _ hji]
     exact h3.2.2
theorem get_of_drop {i:Nat} {o:Oper} {tl:List Oper} (h:ops.toList.drop i=o::tl):ops[i]?= some o:=by
 have:(ops.toList.drop i)[0]?= some o:=by rw[h];rfl
 rw[List.getElem?_drop,Nat.add_zero] at this
 simpa using this
theorem hlTake (i:Nat) {oi:Oper} {v:Value} {fuel:Nat} {listed:Array Bool} {a:Act} {w:World} {tl:List Oper} (hi:ops.toList.drop i=oi::tl)
 (hs:Region.noSelect ops=true) (hf:Region.free md ops listed i=true) (hr:(Region.ready md ops listed).contains i=true) (hwt:waits md ops U listed i=true)
 (hQ:∀c a w,Q (.panic c) (a.put oi.dst v) w→Q (.panic c) a w) (hw:Region.wanted oi (yielded ops a.tmps)=true) (hy:∀w,S w→(execOp a.eval oi).run P w= .ok (.value v) w) (hS:S w)
 (h:wpAnyL P md ops U Q S fuel (listed.setIfInBounds i true) (a.put oi.dst v) w):wpAnyL P md ops U Q S (fuel+1) listed a w:=
 wpAnyL_first (get_of_drop hi) (Region.noSelect_spec hs) hQ fuel listed a w (Region.free_spec (get_of_drop hi) hf) (by simpa using hr) hwt (.inl ⟨hw,hy⟩) hS h
def AllReadyL (P:Program) (md:Region.Mode) (ops:Array Oper) (U:List Nat) (Q:Exit→Act→World→Prop) (S:World→Prop) (fuel:Nat) (listed:Array Bool) (a:Act) (w:World) (rs:List Nat):Prop:=
 ∀i∈rs,wpOp P ops Q i (fun a' w'=>(lft U (listed.setIfInBounds i true)=true→S w')∧wpAnyL P md ops U Q S fuel (listed.setIfInBounds i true) a' w') a w
theorem AllReadyL.nil {fuel:Nat} {listed:Array Bool} {a:Act} {w:World} :AllReadyL P md ops U Q S fuel listed a w []:=fun _ h=>by cases h
theorem AllReadyL.cons {fuel:Nat} {listed:Array Bool} {a:Act} {w:World} {i:Nat} {o:Oper} {rs:List Nat} {tl:List Oper} (ho:ops.toList.drop i=o::tl)
 (h:∀K':Act→World→Prop,Shut (∀a w,S w→(S w→wpAnyL P md ops U Q S fuel (listed.setIfInBounds i true) a w)→K' a w)→if Region.wanted o (yielded ops a.tmps)=true then Oper.wp P o a w K' Q else K' (a.put o.dst undef) w)
 (hs:AllReadyL P md ops U Q S fuel listed a w rs):AllReadyL P md ops U Q S fuel listed a w (i::rs):=fun j hj=>by
 rcases List.mem_cons.1 hj with rfl | hj
 · exact wpOp_step (get_of_drop ho) (fun K' hK=>h K' (fun a w hS hW=>hK a w ⟨fun _=>hS,hW hS⟩))
 · exact hs j hj
theorem hlReady {rs:List Nat} {fuel:Nat} {listed:Array Bool} {a:Act} {w:World} (hr:Region.ready md ops listed=rs) (hne:rs≠[])
 (h:AllReadyL P md ops U Q S fuel listed a w rs):wpAnyL P md ops U Q S (fuel+1) listed a w:=
 ⟨fun h0=>absurd (hr▸h0) hne,hr▸h⟩
theorem hlStep (i:Nat) {fuel:Nat} {listed:Array Bool} {a:Act} {w:World} {o:Oper} {tl:List Oper} (ho:ops.toList.drop i=o::tl) (hr:Region.ready md ops listed=[i]) (hl:lft U (listed.setIfInBounds i true)=false)
 (h:∀K':Act→World→Prop,Shut (∀a w,wpAnyL P md ops U Q S fuel (listed.setIfInBounds i true) a w→K' a w)→if Region.wanted o (yielded ops a.tmps)=true then Oper.wp P o a w K' Q else K' (a.put o.dst undef) w):wpAnyL P md ops U Q S (fuel+1) listed a w:=
 hlReady hr (by simp) fun j hj=>by
  obtain rfl:j=i:=by simpa using hj
  exact wpOp_step (get_of_drop ho) (fun K' hK=>h K' (fun a w hW=>hK a w ⟨fun h=>(by rw[hl] at h;cases h),hW⟩))
theorem hlDone {listed:Array Bool} {a:Act} {w:World} (hr:Region.ready md ops listed=[]) (h:Q .normal a w):∀fuel,wpAnyL P md ops U Q S fuel listed a w
 | 0=>⟨hr,h⟩
 | _+1=>⟨fun _=>h,by rw[hr];simp⟩
theorem wp_region_L (U:List Nat) {id:Nat} {a:Act} {w:World} (hm:P.follows .mixedOrders=true) (hS:S w.drew)
 (h:S w.drew→wpAnyL P .any ops U Q S ops.size (Array.replicate ops.size false) a w.drew):(Code.region id ops true).wp P Q a w:=
 wp_region_any hm (wpAny_of_L _ _ _ _ (h hS))
end
section
variable {P : Program} {ops : Array Oper} {Q : Exit → Act → World → Prop} {md : Region.Mode} {S : World → Prop} {U : List Nat}
theorem hlE (i:Nat) {oi:Oper} {fuel:Nat} {listed:Array Bool} {a:Act} {w:World} {tl:List Oper} (hi:ops.toList.drop i=oi::tl) (hS:S w)
 (h:∃v,(∀w,S w→(execOp a.eval oi).run P w= .ok (.value v) w)∧wpAnyL P md ops U Q S fuel (listed.setIfInBounds i true) (a.put oi.dst v) w)
 (hw:Region.wanted oi (yielded ops a.tmps)=true:=by rfl) (hs:Region.noSelect ops=true:=by kernel_rfl) (hf:Region.free md ops listed i=true:=by kernel_rfl) (hr:(Region.ready md ops listed).contains i=true:=by kernel_rfl) (hwt:waits md ops U listed i=true:=by kernel_rfl)
 (hQ:∀v c a w,Q (.panic c) (a.put oi.dst v) w→Q (.panic c) a w:=by exact fun _ _ _ _ h=>h):wpAnyL P md ops U Q S (fuel+1) listed a w:=by
 obtain⟨v,hy,h⟩:=h
 exact hlTake i hi hs hf hr hwt (hQ v) hw hy hS h
theorem hlF (i:Nat) {oi:Oper} {fuel:Nat} {listed:Array Bool} {a:Act} {w:World} {tl:List Oper} {v:Value} (hi:ops.toList.drop i=oi::tl) (hS:S w)
 (h:wpAnyL P md ops U Q S fuel (listed.setIfInBounds i true) (a.put oi.dst v) w)
 (hy:∀w,S w→(execOp a.eval oi).run P w= .ok (.value v) w:=by intro w hSw;(try dsimp only at hSw);go_simp;try with_reducible rfl)
 (hw:Region.wanted oi (yielded ops a.tmps)=true:=by rfl) (hs:Region.noSelect ops=true:=by kernel_rfl) (hf:Region.free md ops listed i=true:=by kernel_rfl) (hr:(Region.ready md ops listed).contains i=true:=by kernel_rfl) (hwt:waits md ops U listed i=true:=by kernel_rfl)
 (hQ:∀v c a w,Q (.panic c) (a.put oi.dst v) w→Q (.panic c) a w:=by exact fun _ _ _ _ h=>h):wpAnyL P md ops U Q S (fuel+1) listed a w:=
 hlTake i hi hs hf hr hwt (hQ v) hw hy hS h
theorem hlA {α:Type} (l:List α) (i:Nat) (a:α):l.toArray.setIfInBounds i a=(l.set i a).toArray:=List.setIfInBounds_toArray ..
theorem hlB {α:Type} {x:α} {xs:List α} {a:α} :(x::xs).set 0 a=a::xs:=List.set_cons_zero
theorem hlC {α:Type} {x:α} {xs:List α} {n:Nat} {a:α} :(x::xs).set (n+1) a=x::xs.set n a:=List.set_cons_succ
end
theorem copyRoute_any (v:Value) (st:Int) (fb:List Int) (w:World) (h:Rd w v fb) (hl:fb.length≤1000000):
 Calls Tryz.prog 160 #[.agg #[.int .i64 st,v]] w fun e w'=>∃v',e= .returned (.agg #[.int .i64 st,v'])∧Own w' w.heap.size v' fb∧Below w.heap.size w w':=by
 obtain⟨NP,hNP⟩:∃NP:Ending→World→Prop,NP=fun e w'=>∃v',e= .returned (.agg #[.int .i64 st,v'])∧Own w' w.heap.size v' fb∧Below w.heap.size w w':=⟨_,rfl⟩
 rw[←hNP]
 obtain⟨a,cap,hv,hcap,hnone,-⟩:=full_ok h
 have hlx:(ints fb).length=fb.length:=by simp[ints]
 have HO:=ξh (show∀u∈ints fb,u.oneCell'=true from fun u hu=>by obtain⟨z,-,rfl⟩:=List.mem_map.1 hu;rfl)
 subst hv
 have HC:=ξh (fun(w':World) (hb:Below w.heap.size w w')=>(h.belowAll hb).cellsOf)
 obtain⟨m,hm⟩:∃m,m=fb.length:=⟨_,rfl⟩
 rw[←hm] at hlx hcap hnone hl ⊢
 have HM:=ξh hm
 have HL:=ξh hlx
 have HN:=ξh hnone
 generalize hys:ints fb=ys at *
 have HY:=ξh hys
 clear h hlx hm hnone hys
 have b1:=(ξb w.heap.size w).alloc (ξr _) (.cells #[.int .i64 st,.slice a m cap] 82)
 have b2:=b1.alloc b1.size (.cells #[.int .i64 0,.slice none 0 0] 82)
 have k0:=ξn w (.cells #[.int .i64 st,.slice a m cap] 82)
 have k0':=(heap_alloc_old _ (.cells #[.int .i64 0,.slice none 0 0] 82) (ξa k0).1).trans k0
 have k1:=ξn (w.alloc (.cells #[.int .i64 st,.slice a m cap] 82)) (.cells #[.int .i64 0,.slice none 0 0] 82)
 rw[show(w.alloc (.cells #[.int .i64 st,.slice a m cap] 82)).heap.size=w.heap.size+1 by simp] at k1
 have HB2:=ξh b2
 have K0:=ξh k0'
 have K1:=ξh k1
 have HNP:=ξh hNP
 have HZ:=ξh (show((w.alloc (.cells #[.int .i64 st,.slice a m cap] 82)).alloc (.cells #[.int .i64 0,.slice none 0 0] 82)).heap.size=w.heap.size+1+1 by simp)
 clear b1 b2 k0 k0' k1 hNP
 go_enter Tryz.func160,Tryz.ntmps160
 go_upto_region 1 with fail
 generalize (w.alloc (.cells #[.int .i64 st,.slice a m cap] 82)).alloc (.cells #[.int .i64 0,.slice none 0 0] 82)=w2 at *
 have HSS:=ξh (fun(w':World) (hb:Below w2.heap.size w2 w')=>show w'.cell? ⟨w.heap.size,0,none⟩=some (.int .i64 st)∧w'.cell? ⟨w.heap.size,1,none⟩=some (.slice a m cap) from
  have h0:=kept_o' K0.out hb
  ⟨blkc h0 rfl,blkc h0 rfl⟩)
 refine wp_region_L [0,1,2,3,4,5,6] (S:=fun w'=>w'.cell? ⟨w.heap.size,0,none⟩=some (.int .i64 st)∧w'.cell? ⟨w.heap.size,1,none⟩=some (.slice a m cap)) (by kernel_rfl) (HSS.out _ (ξb _ _).drew) (fun hH=> ?_)
 refine hlF 0 rfl hH ?_
 try simp only[Act.put,hlA,hlB,hlC]
 refine hlF 1 rfl hH ?_
 try simp only[Act.put,hlA,hlB,hlC]
 refine hlF 3 rfl hH ?_
 try simp only[Act.put,hlA,hlB,hlC]
 refine hlF 4 rfl hH ?_
 try simp only[Act.put,hlA,hlB,hlC]
 refine hlReady (rs:=[2]) (by kernel_rfl) (by simp) ?_
 refine AllReadyL.cons rfl (fun KK hKK=> ?_) AllReadyL.nil
 go_simp
 have B5:=bel1 (w:=w2) (X:= .cells #[] 3)
 refine hKK.out _ _ (HSS.out _ B5) (fun hH=> ?_)
 clear hKK KK
 try simp only[Act.put,hlA,hlB,hlC]
 refine hlReady (rs:=[5]) (by kernel_rfl) (by simp) ?_
 refine AllReadyL.cons rfl (fun KK hKK=> ?_) AllReadyL.nil
 refine step_of_list rfl ?_
 refine wpList_catG rfl (.tmp 5) (.tmp 7) 58 3 rfl Tryz.underlying58 (.int .i64 0) 1 8 Tryz.infoInt rfl (by decide) w2.heap.size (.slice (some ⟨w2.heap.size,0,none⟩) 0 0) 0 [] (by rfl) row_made1 a m cap ys (by rfl) (by rw[HL.out,Nat.mul_one]) (fun e=>by have:=HN.out e;omega) (HC.out _ (HB2.out.trans (B5.mono HB2.out.size))) HO.out (by unfold maxLen;omega) (by omega) B5.size ?_
 intro v8 w8 o8 g8 l8
 have B8:Below w2.heap.size w2 w8:=Below.grown B5 g8 B5.size (fun q hq=>by have hq2:w2.heap.size=q:=ξo hq;omega)
 unfold wpList
 refine⟨rfl,?_⟩
 refine hKK.out _ _ (HSS.out _ B8) (fun hH=> ?_)
 clear hKK KK
 try simp only[Act.put,hlA,hlB,hlC]
 obtain⟨a8,c8,rfl⟩:=rowf o8
 have x8:=kept_o' K1.out B8
 have f0:w8.frozen? ⟨w.heap.size+1,0,none⟩=false:=ξz _ _ _ _ _ x8
 have f1:w8.frozen? ⟨w.heap.size+1,1,none⟩=false:=ξz _ _ _ _ _ x8
 have y0:=blkc x8 (j:=0) rfl
 have y1:=blkc x8 (j:=1) rfl
 refine hlStep 6 rfl (by kernel_rfl) (by kernel_rfl) (fun KK hKK=> ?_)
 go_simp
 refine hKK.out _ _ ?_
 clear hKK KK
 try simp only[Act.put,hlA,hlB,hlC]
 refine hlStep 7 rfl (by kernel_rfl) (by kernel_rfl) (fun KK hKK=> ?_)
 go_simp
 refine hKK.out _ _ ?_
 clear hKK KK
 try simp only[Act.put,hlA,hlB,hlC]
 refine hlDone (by kernel_rfl) ?_ _
 rotate_left 1
 have hz2:=HZ.out
 have q1:=heap_setCell_same w8 (w.heap.size+1) 0 _ 82 (.int .i64 st) x8
 have q2:=heap_setCell_same _ (w.heap.size+1) 1 _ 82 (.slice a8 m c8) q1
 have hown:=own_of_row (show w8.ownsRow w2.heap.size 3 1 (.slice a8 m c8) fb.length (ints fb) from by rw[HY.out,←HM.out];rw[Nat.zero_add] at o8;exact o8)
 have hset:∀k,k≠w.heap.size+1→((w8.setCell ⟨w.heap.size+1,0,none⟩ (.int .i64 st)).setCell ⟨w.heap.size+1,1,none⟩ (.slice a8 m c8)).heap[k]?= w8.heap[k]?:=fun k hk=>by
  rw[heap_setCell_other _ ⟨w.heap.size+1,1,none⟩ k _ hk,heap_setCell_other _ ⟨w.heap.size+1,0,none⟩ k _ hk]
 have HOW:=ξh (show Own ((w8.setCell ⟨w.heap.size+1,0,none⟩ (.int .i64 st)).setCell ⟨w.heap.size+1,1,none⟩ (.slice a8 m c8)) w.heap.size (.slice a8 m c8) fb from by
  have h1:=hown.mono (show w.heap.size≤w2.heap.size by omega)
  rcases h1 with h1 | ⟨g,off,cap,cur,h1,h2,⟨T,h3⟩,h4⟩
  · exact .inl h1
  · have hgl:=hown.lt g (by rw[h1];rfl)
    exact .inr ⟨g,off,cap,cur,h1,h2,⟨T,by rw[hset g (by omega)];exact h3⟩,h4⟩)
 have HBO:=ξh (show Below w.heap.size w ((w8.setCell ⟨w.heap.size+1,0,none⟩ (.int .i64 st)).setCell ⟨w.heap.size+1,1,none⟩ (.slice a8 m c8)) from by
  have hb:=HB2.out.trans (B8.mono HB2.out.size)
  exact⟨hb.os,hb.tape,hb.output,by simpa using hb.size,fun k hk=>by rw[hset k (by omega)];exact hb.block k hk⟩)
 generalize (w8.setCell ⟨w.heap.size+1,0,none⟩ (.int .i64 st)).setCell ⟨w.heap.size+1,1,none⟩ (.slice a8 m c8)=w9 at *
 have z0:=blkc q2 (j:=0) (u:= .int .i64 st) (by simp)
 have z1:=blkc q2 (j:=1) (u:= .slice a8 m c8) (by simp)
 clear hz2 q1 q2 hown hset o8 g8 l8 x8 f0 f1 y0 y1 B8 B5
 go_wp2_with fail
 rw[HNP.out]
 exact bodyPost_ret (v:= .agg #[.int .i64 st,.slice a8 m c8]) (by simp[results,Tryz.results160,go_sem,z0,z1]) rfl ⟨_,rfl,HOW.out,HBO.out⟩
end Go.Proofs.YtofcicomhnkocaaGreat
