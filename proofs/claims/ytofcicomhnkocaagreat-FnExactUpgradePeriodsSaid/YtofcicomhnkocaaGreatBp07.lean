/- Joined: XPsh XAlbQ XSrtW XAlbV XDra XRtsP XHas XRou. -/
import Derived.Test.YtofcicomhnkocaaGreatBp02
import Derived.Test.YtofcicomhnkocaaGreatBp04
import Derived.ArgAppend
import Derived.Test.YtofcicomhnkocaaGreatBp06
import Derived.Test.YtofcicomhnkocaaGreatBp03
import Derived.Test.YtofcicomhnkocaaGreatBp01
import Derived.Test.YtofcicomhnkocaaGreatShelf
import Derived.Lib.QuietBelow
import Derived.StillTailTactics
import Derived.Deep.RegionLaw
import Derived.Laws.AppendOwnNone
import Derived.Maps.AppendAt
set_option linter.unusedVariables false
namespace Go.Proofs.YtofcicomhnkocaaGreat
set_option maxHeartbeats 3200000
open Go.RowKit
theorem Own.pushed' {w:World} {base:Nat} {v:Value} {xs:List Int} {g off n cap:Nat} (h:Own w base v xs) (hv:v= .slice (some ⟨g,off,none⟩) n cap) (hc:n+1≤cap) (u:Int):
 Own (w.setCell ⟨g,off+n,none⟩ (.int .i64 u)) base (.slice (some ⟨g,off,none⟩) (n+1) cap) (xs++[u])∧w.grownBy (w.setCell ⟨g,off+n,none⟩ (.int .i64 u)) (some g):=by
 rcases h with ⟨rfl,rfl⟩ | ⟨g',off',cap',cur,hv',hb,⟨T,hg⟩,h1,h2,h3,h4⟩
 · simp at hv
 · rw[hv'] at hv
   simp only[Value.slice.injEq,Option.some.injEq,Addr.mk.injEq,and_true] at hv
   obtain⟨⟨rfl,rfl⟩,rfl,rfl⟩:=hv
   refine⟨.inr ⟨g',off',cap',cur.setIfInBounds (off'+xs.length) (.int .i64 u),by simp,hb,⟨T,heap_setCell_same w g' (off'+xs.length) cur _ _ hg⟩,by simpa using hc,h2,by simpa using h3,?_⟩,
    ⟨rfl,rfl,rfl,by simp,fun k _ hk=>heap_setCell_other w ⟨g',off'+xs.length,none⟩ k _ (fun e=>hk (by simp[e]))⟩⟩
   have hlt:xs.length<(cur.toList.drop off').length:=by simp;omega
   rw[Array.toList_setIfInBounds,List.length_append]
   show List.take (xs.length+1) (List.drop off' (cur.toList.set (off'+xs.length) (.int .i64 u)))=(xs++[u]).map (Value.int .i64)
   rw[List.map_append]
   show _=ints xs++[Value.int .i64 u]
   rw[←h4,List.drop_set,if_neg (by omega),Nat.add_sub_cancel_left,List.take_add_one,List.getElem?_set_self hlt,List.take_set,List.set_eq_of_length_le (by simp;omega)]
   rfl
theorem wpList_pushI {P:Program} {ops:Array Oper} {rest:List Oper} {o:Oper} {a:Act} {Q:Exit→Act→World→Prop} {wr:World} {y:Int} (hgd:o.guard=none) (s x:Operand) (T:TypeId)
 (ho:o.op= .call {callee:= .builtin .append,args:=#[s,x],argTypes:=#[T,T]}) (ht:P.underlying T=some (.slice 3))
 (hinfo:(P.info? 3).map (fun i=>(i.zero,i.size,i.bytes))=some (some (.int .i64 0),1,8))
 (base:Nat) (v:Value) (xs:List Int) (hs:a.eval s=v) (hown:Own wr base v xs)
 (hx:a.eval x= .slice (some ⟨wr.heap.size,0,none⟩) 1 1) (hn:xs.length≤4000000) (hbase:base≤wr.heap.size)
 (h:∀v' w',Own w' base v' (xs++[y])→wr.grownBy w' v.ownBlock→(∀g,v'.ownBlock=some g→v.ownBlock=some g∨wr.heap.size≤g)→wpList P ops Q rest (a.put o.dst v') w'):
 wpList P ops Q (o::rest) a (wr.alloc (.cells #[.int .i64 y] 3)):=by
 have h0:=hown
 rcases hown with ⟨rfl,rfl⟩ | ⟨g,f,cap,cur,rfl,hb,⟨T',hg⟩,h1,h2,h3,h4⟩
 · obtain⟨i0,hi,hz0,hz1,hz2⟩:=info_parts hinfo
   have hr:(wr.alloc (.cells #[.int .i64 y] 3)).ownsRow wr.heap.size 3 1 (.slice none 0 0) 0 (ints []):=⟨by simp,.inl ⟨rfl,rfl⟩⟩
   refine wpList_append_own _ hgd s x T ho wr.heap.size 3 i0 (.int .i64 0) 1 8 ht hi hz0 hz1 hz2 rfl (by decide) (.slice none 0 0) 0 (ints []) hs hr ⟨wr.heap.size,0,none⟩ 1 1 [.int .i64 y] hx rfl ?_ ?_ (by unfold maxLen;omega) (by omega) (by simp) ?_
   · intro j u hu
     rcases j with _ | j
     · simp at hu;subst hu
       simp[Addr.add,World.cell?_alloc_at]
     · simp at hu
   · intro u hu;simp at hu;subst hu;rfl
   · intro v' w' g1 g2 _
     have g3:w'.ownsRow wr.heap.size 3 1 v' (0+1) (ints ([]++[y])):=by simpa[ints] using g1
     have o3:=own_of_row g3
     exact h v' w' (o3.mono hbase) ((World.grownBy_alloc _ _ _).trans' g2) (fun g hg=> .inr (o3.lt g hg).1)
 · obtain⟨i0,hi,hz0,hz1,hz2⟩:=info_parts hinfo
   have hba:Below wr.heap.size wr (wr.alloc (.cells #[.int .i64 y] 3)):=(Below.refl _ _).alloc (Nat.le_refl _) _
   have ho2:=h0.belowAll hba
   obtain⟨hl,hc⟩:=ho2.cellAt rfl
   have hg0:wr.grownBy (wr.alloc (.cells #[.int .i64 y] 3)) (some g):=⟨hba.os,hba.tape,hba.output,hba.size,fun k hk _=>hba.block k hk⟩
   refine wpList_append_arg _ hgd s x T ho 3 i0 (.int .i64 0) 1 8 ht hi hz0 hz1 hz2 rfl (by decide) g f xs.length cap (ints xs) hs (by simp) ?_ ⟨wr.heap.size,0,none⟩ 1 1 [.int .i64 y] hx rfl ?_ ?_ ?_ (by unfold maxLen;omega) (by omega) ?_ ?_
   · intro j u hu
     have hj:j<xs.length:=by have:=(List.getElem?_eq_some_iff.1 hu).1;simpa using this
     rw[hc j hj,←hu]
     simp[hj]
   · intro j u hu
     rcases j with _ | j
     · simp at hu;subst hu
       simp[Addr.add,World.cell?_alloc_at]
     · simp at hu
   · intro u hu
     simp at hu;subst hu;rfl
   · intro hr j hj
     obtain rfl:j=0:=by simpa using hj
     have hblt:g<wr.heap.size:=(Array.getElem?_eq_some_iff.1 hg).1
     have hg':(wr.alloc (.cells #[.int .i64 y] 3)).heap[g]?= some (.cells cur T' (0,0)):=(hba.block g hblt).trans hg
     refine⟨?_,frozen_of_row _ _ _ _ _ hg'⟩
     rw[cell_of_row _ _ _ _ _ _ hg']
     simp;omega
   · intro hr
     have hst:=ho2.pushed' rfl (by omega) y
     rw[show f+xs.length*1=f+xs.length from by omega]
     exact h _ _ hst.1 (hg0.trans' hst.2) (fun g' hg'=> .inl (by simpa[Value.ownBlock] using hg'))
   · intro hr v' w' h1 h2
     have h3:w'.ownsRow (wr.alloc (.cells #[.int .i64 y] 3)).heap.size 3 1 v' (xs.length+1) (ints (xs++[y])):=by simpa[ints] using h1
     have o3:=own_of_row h3
     exact h v' w' (o3.mono (by simp;omega)) (hg0.trans' ⟨h2.os,h2.tape,h2.output,h2.size,fun k hk _=>h2.block k hk (by simp)⟩) (fun g' hg'=> .inr (by have:=(o3.lt g' hg').1;simp at this;omega))
/-! ### A list's law as one step of a drawn region -/
theorem upon_mono {P:Program} {o:Oper} {a:Act} {K K':Act→World→Prop} {Q Q':Exit→Act→World→Prop} (hK:∀a w,K a w→K' a w) (hQ:∀e a w,e≠ .normal→Q e a w→Q' e a w) {r} (h:o.upon P a K Q r):o.upon P a K' Q' r:=by
 unfold Oper.upon at h ⊢
 split at h
 all_goals first
  | exact hK _ _ h
  | exact hQ _ _ _ (by simp) h
  | exact h
  | (refine Calls.mono h ?_
     rintro e w' hh
     cases e
     · exact hK _ _ hh
     · exact hQ _ _ _ (by simp) hh
     · obtain⟨a2,w2,q⟩:=hh;exact⟨a2,w2,hQ _ _ _ (by simp) q⟩)
  | (refine Rows.mono h ?_
     intro v w' hh
     exact hK _ _ hh)
theorem step_of_list {P:Program} {ops:Array Oper} {o:Oper} {a:Act} {w:World} {K:Act→World→Prop} {Q:Exit→Act→World→Prop} {E:Prop} (hg:o.guard=none)
 (h:wpList P ops (fun e a' w'=>e= .normal∧K a' w') [o] a w):if Region.wanted o (yielded ops a.tmps)=true then Oper.wp P o a w K Q else E:=by
 have hw:Region.wanted o (yielded ops a.tmps)=true:=by simp[Region.wanted,hg]
 rw[if_pos hw]
 unfold wpList at h
 rw[if_pos hw] at h
 rcases h with h | ⟨-,a2,w2,h,-⟩
 · unfold Oper.wp at h ⊢
   refine upon_mono (fun a w hh=> ?_) (fun e a w hne hh=> ?_) h
   · unfold wpList at hh;exact hh.2
   · exact absurd hh.1 hne
 · cases h
/-! ### Rows made sets, one after the other -/
open Go.RowKit Go.Sort Go.Lib
theorem sortI_own (v:Value) (xs:List Int) (base:Nat) (w:World) (h:Own w base v xs) (hl:xs.length≤1099511627776):
 Calls Tryz.prog 117 #[v] w fun e w'=>e= .returned (.tuple #[])∧Own w' base v (srt xs)∧w.grownBy w' v.ownBlock:=by
 have h0:=h
 rcases h with ⟨rfl,rfl⟩ | ⟨g,off,cap,cur,rfl,hb,⟨T,hg⟩,h1,h2,h3,h4⟩
 · refine(Tryz.slices_Sort_int_none none 0 w).mono ?_
   rintro e w' ⟨rfl,rfl⟩
   exact⟨rfl,.inl ⟨rfl,by unfold srt;simp⟩,⟨rfl,rfl,rfl,Nat.le_refl _,fun _ _ _=>rfl⟩⟩
 · refine(Tryz.slices_Sort_int g off cap xs w h0.holds (Array.getElem?_eq_some_iff.1 hg).1 (by omega)).mono ?_
   rintro e w' ⟨rfl,n,os,rfl⟩
   have:=h0.putRow (q:=n) (os:=os) (ts:=srt xs) (m:=xs.length) (srt_len xs) (by rw[srt_len];exact Nat.le_refl _)
   rw[List.take_of_length_le (by rw[srt_len];exact Nat.le_refl _)] at this
   exact⟨rfl,this,grownBy_putRow _⟩
theorem compactI_own (v:Value) (xs:List Int) (base:Nat) (w:World) (h:Own w base v xs) (hl:xs.length≤1099511627776):
 Calls Tryz.prog 180 #[v] w fun e w'=>∃v',e= .returned v'∧v'.ownBlock=v.ownBlock∧Own w' base v' (cpt xs)∧w.grownBy w' v.ownBlock:=by
 have h0:=h
 rcases h with ⟨rfl,rfl⟩ | ⟨g,off,cap,cur,rfl,hb,⟨T,hg⟩,h1,h2,h3,h4⟩
 · refine(Tryz.slices_Compact_int_empty none 0 w).mono ?_
   rintro e w' ⟨rfl,rfl⟩
   exact⟨_,rfl,rfl,.inl ⟨rfl,rfl⟩,⟨rfl,rfl,rfl,Nat.le_refl _,fun _ _ _=>rfl⟩⟩
 · refine(Tryz.slices_Compact_int g off cap xs w h0.holds (by omega) h1).mono ?_
   rintro e w' ⟨rfl,n,rfl⟩
   have hle:(Lib.compact xs).length≤xs.length:=cpt_len xs
   have hT:(Lib.compact xs++List.replicate (xs.length-(Lib.compact xs).length) 0).length=xs.length:=by rw[List.length_append,List.length_replicate];omega
   have:=h0.putRow (q:=n) (os:=#[]) (ts:=Lib.compact xs++List.replicate (xs.length-(Lib.compact xs).length) 0) (m:=(Lib.compact xs).length) hT (by omega)
   rw[List.take_left,grow_empty] at this
   have g2:=grownBy_putRow (w:=w) (g:=g) (off:=off) (n:=n) (os:=#[]) (Lib.compact xs++List.replicate (xs.length-(Lib.compact xs).length) 0).toArray
   rw[grow_empty] at g2
   exact⟨_,rfl,rfl,this,g2⟩
open Go.RowKit Go.Sort
set_option maxRecDepth 100000
theorem wpList_catA {P:Program} {ops:Array Oper} {rest:List Oper} {o:Oper} {a:Act} {Q:Exit→Act→World→Prop} {w:World} (hgd:o.guard=none) (s x:Operand) (T:TypeId)
 (ho:o.op= .call {callee:= .builtin .append,args:=#[s,x],argTypes:=#[T,T]}) (ht:P.underlying T=some (.slice 3))
 (hinfo:(P.info? 3).map (fun i=>(i.zero,i.size,i.bytes))=some (some (.int .i64 0),1,8))
 (base:Nat) (v:Value) (n:Nat) (xs:List Int) (hs:a.eval s=v) (hown:w.ownsRow base 3 1 v n (ints xs))
 (ao:Option Addr) (m c:Nat) (ys:List Int) (hx:a.eval x= .slice ao m c) (hm:ys.length=m) (hy:ao=none→m=0∧c=0) (hc:0<m→ ∃b off,ao=some ⟨b,off,none⟩∧ ∀j,j<m→w.cell? ⟨b,off+j,none⟩=some (.int .i64 (ys[j]?.getD 0))) (hn:n+m≤1000000) (hbase:base≤w.heap.size)
 (h:∀v' w',w'.ownsRow base 3 1 v' (n+m) (ints (xs++ys))→w.grownBy w' v.ownBlock→wpList P ops Q rest (a.put o.dst v') w'):
 wpList P ops Q (o::rest) a w:=by
 obtain⟨i0,hi,hz0,hz1,hz2⟩:=info_parts hinfo
 rcases ao with _ | ad
 · obtain⟨rfl,rfl⟩:=hy rfl
   have:ys=[]:=List.eq_nil_of_length_eq_zero hm
   subst this
   refine wpList_append_own_none hgd s x T ho base 3 i0 1 ht hi v n (ints xs) hs hown hx ?_
   exact h v w (by simpa using hown) ⟨rfl,rfl,rfl,Nat.le_refl _,fun _ _ _=>rfl⟩
 · refine wpList_append_own _ hgd s x T ho base 3 i0 (.int .i64 0) 1 8 ht hi hz0 hz1 hz2 rfl (by decide) v n (ints xs) hs hown ad m c (ints ys) hx (by simpa using hm) ?_ (ints_oneCell _ _) (by unfold maxLen;omega) (by omega) hbase ?_
   · intro j u hu
     have hj:j<ys.length:=by have:=(List.getElem?_eq_some_iff.1 hu).1;simpa using this
     obtain⟨b,off,e1,e2⟩:=hc (by omega)
     simp only[Option.some.injEq] at e1
     subst e1
     have e:(⟨b,off,none⟩:Addr).add j=⟨b,off+j,none⟩:=by unfold Addr.add;split <;> simp_all
     rw[e,e2 j (by omega),←hu]
     simp[hj]
   · intro v' w' g1 g2 _
     exact h v' w' (by simpa[ints] using g1) g2
theorem putI_new {xs:List Int} {n:Int} {k:Nat} (hk:k≤xs.length) (hl:∀i,i<k→xs[i]?.getD 0<n) (hg:k<xs.length→n<xs[k]?.getD 0):putI xs n=xs.take k++[n]++xs.drop k:=by
 rw[putI_at k hk hl (fun h=>by have:=hg h;omega),if_neg (fun h=>by have:=hg h.1;omega)];simp
theorem putI_old {xs:List Int} {n:Int} {k:Nat} (hk:k<xs.length) (hl:∀i,i<k→xs[i]?.getD 0<n) (hg:xs[k]?.getD 0=n):putI xs n=xs:=by
 rw[putI_at k (Nat.le_of_lt hk) hl (fun h=>by omega),if_pos ⟨hk,hg⟩]
theorem one_cell {W:World} {c:Nat} {n:Int} (h:W.cell? ⟨c,0,none⟩=some (.int .i64 n)):∀j,j<1→W.cell? ⟨c,0+j,none⟩=some (.int .i64 (([n]:List Int)[j]?.getD 0)):=fun j hj=>by
 obtain rfl:j=0:=by omega
 exact h
section
variable {w : World} {X Y : Obj} {T : TypeId} {n : Int}
theorem own_made1:(w.drew.alloc (.cells #[] T)).ownsRow w.heap.size T 1 (.slice (some ⟨w.heap.size,0,none⟩) 0 0) 0 (ints []):=World.ownsRow_made w.drew #[] 0 (Nat.le_refl _) (Nat.zero_le _) (by simp)
theorem own_made2:((w.drew.alloc (.cells #[] T)).alloc X).ownsRow w.heap.size T 1 (.slice (some ⟨w.heap.size,0,none⟩) 0 0) 0 (ints []):=own_made1.alloc _
theorem own_made3:((w.drew.alloc X).alloc (.cells #[] T)).ownsRow w.heap.size T 1 (.slice (some ⟨w.heap.size+1,0,none⟩) 0 0) 0 (ints []):=by
 have:=World.ownsRow_made (base:=w.heap.size) (e:=T) (size:=1) (w.drew.alloc X) #[] 0 (by simp) (Nat.zero_le _) (by simp)
 simpa using this
theorem bel1:Below w.heap.size w (w.drew.alloc X):=(Below.refl w.heap.size w).drew.alloc (Nat.le_refl _) _
theorem bel2:Below w.heap.size w ((w.drew.alloc X).alloc Y):=bel1.alloc (by simp) _
theorem cn1:(w.alloc (.cells #[.int .i64 n] T)).cell? ⟨w.heap.size,0,none⟩=some (.int .i64 n):=by simp
theorem cn2:((w.drew.alloc X).alloc (.cells #[.int .i64 n] T)).cell? ⟨w.heap.size+1,0,none⟩=some (.int .i64 n):=by
 have:=cn1 (w:=w.drew.alloc X) (T:=T) (n:=n)
 simpa using this
theorem cn3:((w.drew.alloc (.cells #[.int .i64 n] T)).alloc Y).cell? ⟨w.heap.size,0,none⟩=some (.int .i64 n):=
 (World.cell?_of_block (heap_alloc_old _ Y (by simp))).trans (cn1 (w:=w.drew))
theorem size_alloc {B:Nat} (h:B≤w.heap.size):B≤(w.alloc X).heap.size:=Nat.le_trans h (by simp)
theorem lt2:w.heap.size+1<((w.drew.alloc X).alloc Y).heap.size:=by simp
theorem lt3:w.heap.size<((w.drew.alloc X).alloc Y).heap.size:=by simp;omega
theorem ne2:some (w.heap.size+1)≠(Value.slice (some ⟨w.heap.size,0,none⟩) 0 0).ownBlock:=by simp[Value.ownBlock]
theorem ne3:some w.heap.size≠(Value.slice (some ⟨w.heap.size+1,0,none⟩) 0 0).ownBlock:=by simp[Value.ownBlock]
end
def PutP (u:Value) (xs:List Int) (n:Int) (base:Nat) (w:World) (e:Ending) (w':World):Prop:=∃v',e= .returned v'∧Own w' base v' (putI xs n)∧(∀k,v'.ownBlock=some k→u.ownBlock=some k∨w.heap.size≤k)∧Below w.heap.size w w'
theorem l1Put_any (u:Value) (xs:List Int) (n:Int) (base:Nat) (w:World) (h:Own w base u xs) (hb:base≤w.heap.size) (hl:xs.length≤1000):
 Calls Tryz.prog 107 #[u,.int .i64 n] w (PutP u xs n base w):=by
 obtain⟨a,cap,m,HM,rfl,hmc,hm63,ha⟩:=h.rd.opn
 have HO:=Lib.hid h
 have HA:=Lib.hid ha
 have HPN:=Lib.hid (fun k h1 h2 h3=>@putI_new xs n k h1 h2 h3)
 have HPO:=Lib.hid (fun k h1 h2 h3=>@putI_old xs n k h1 h2 h3)
 have HAN:=Lib.hid (show(a=none∧m=0∧cap=0)∨ ∃g off,a=some ⟨g,off,none⟩ from by
  rcases h with ⟨e,_⟩ | ⟨g,off,cap',cur,e,_⟩
  · simp only[Value.slice.injEq] at e;exact .inl e
  · simp only[Value.slice.injEq] at e;exact .inr ⟨g,off,e.1⟩)
 have hm1:m≤1000:=by have:=HM.out;omega
 rw[HM.out] at HPN HPO
 generalize hp:putI xs n=ps at *
 have HP:=Lib.hid hp
 clear hp h ha
 go_enter Tryz.func107,Tryz.ntmps107
 go_wp2
 go_loopw [5] (fun i wr=>∃k:Nat,k≤m∧i= .int .i64 k∧wr=w∧Hid (∀i,i<k→xs[i]?.getD 0<n)) (fun i _=>m-(intOf i).toNat)
 case atStart=>exact⟨0,Nat.zero_le _,rfl,rfl,fun i hi=>by omega⟩
 case round=>
  obtain⟨k,hk,rfl,rfl,HL⟩:=hrel
  by_cases hlt:k<m
  · have hltI:(k:Int)<(m:Int):=by omega
    obtain⟨b,off,rfl,hbs,hcs⟩:=HA.out (by omega)
    have c0:=hcs k hlt
    have HST:=Lib.hid (fun(h:xs[k]?.getD 0<n)=>show∀i,i<k+1→xs[i]?.getD 0<n from fun i hi=>by
     rcases Nat.lt_or_ge i k with e | e
     · exact HL.out i e
     · have:i=k:=by omega
       rw[this];exact h)
    have HPN1:=Lib.hid (HPN.out k hk HL.out)
    have HPO1:=Lib.hid (HPO.out k hlt HL.out)
    have HC:=Lib.hid hcs
    clear hcs
    generalize xs[k]?.getD 0=y at *
    cases hd:decide (y<n)
    case true=>
     have HS:=Lib.hid (HST.out (by simpa using hd))
     go_wp2
     go_roundw
     case rel=>exact⟨k+1,hlt,by go_num,trivial,HS.out⟩
     case measure=>simp[intOf];omega
    have hyn:n≤y:=by simpa using hd
    by_cases he:y=n
    · have HE:=Lib.hid (HPO1.out he)
      have hb1:(y==n)=true:=by simp[he]
      have hb2:decide (y=n)=true:=by simp[he]
      clear he hyn
      go_wp2
      go_ret
      exact⟨_,rfl,by rw[HP.out,HE.out];exact HO.out,fun k hk=> .inl hk,Below.refl _ _⟩
    · have HE:=Lib.hid (HPN1.out (fun _=>by omega))
      have hb1:(y==n)=false:=by simp[he]
      have hb2:decide (y=n)=false:=by simp[he]
      clear he hyn
      go_wp2
      have HC0:=HC.out
      have HTL:=Lib.hid (show(xs.take k).length=k by rw[List.length_take,HM.out];omega)
      have HDL:=Lib.hid (show(xs.drop k).length=m-k by rw[List.length_drop,HM.out])
      have HTK:=Lib.hid (fun(W:World) (hW:Below wr.heap.size wr W) j (hj:j<k)=>show W.cell? ⟨b,off+j,none⟩=some (.int .i64 ((xs.take k)[j]?.getD 0)) by
       rw[List.getElem?_take,if_pos hj];exact(hW.cell hbs).trans (HC0 j (by omega)))
      have HDK:=Lib.hid (fun(W:World) (hW:Below wr.heap.size wr W) j (hj:j<m-k)=>show W.cell? ⟨b,off+k+j,none⟩=some (.int .i64 ((xs.drop k)[j]?.getD 0)) by
       rw[List.getElem?_drop,Nat.add_assoc];exact(hW.cell hbs).trans (HC0 (k+j) (by omega)))
      clear HC0
      generalize xs.take k=ts at *
      generalize xs.drop k=ds at *
      have hkc:¬cap=k:=by omega
      have i1:(0:Int)≤(k:Int):=by omega
      have i2:(k:Int)≤(cap:Int):=by omega
      have i3:k≤cap:=by omega
      have i4:(k:Int)≤(m:Int):=by omega
      have hck:¬cap-k=0:=by omega
      go_region_law (first
       | ((refine step_of_list rfl ?_);(go_loud (refine wpList_catA rfl (.tmp 33) (.tmp 36) 58 rfl Tryz.underlying58 Tryz.infoInt wr.heap.size _ 0 [] (by rfl) (by first | exact own_made1 | exact own_made2 | exact own_made3) _ k _ ts (by rfl) HTL.out (fun e=>by cases e) (fun _=>⟨b,off,rfl,HTK.out _ (by first | exact bel1 | exact bel2)⟩) (by omega) (by first | exact bel1.size | exact bel2.size) ?_));(intro v1 w1 o1 g1);(have B1:Below wr.heap.size wr w1:=Below.grown (by first | exact bel1 | exact bel2) g1 (by first | exact bel1.size | exact bel2.size) (fun q hq=>(by have hq2:=Option.some.inj hq;rw[←hq2];first | exact Nat.le_refl _ | exact Nat.le_succ _)));(have NN1:=fun c h1 h2=>g1.cell_far ⟨c,0,none⟩ h1 h2);(unfold wpList);(refine⟨rfl,?_⟩))
       | ((refine step_of_list rfl ?_);(go_loud (refine wpList_catA rfl (.tmp 40) (.tmp 43) 58 rfl Tryz.underlying58 Tryz.infoInt wr.heap.size v2 (0+k+1) _ (by rfl) o2 _ (m-k) _ ds (by rfl) HDL.out (fun e=>by cases e) (fun _=>⟨b,off+k,rfl,HDK.out _ B2⟩) (by omega) B2.size ?_));(intro v3 w3 o3 g3);(have B3:Below wr.heap.size wr w3:=Below.grown B2 g3 B2.size (fun q hq=>(o2.lt q hq).1));(have O3:=own_of_row o3);(obtain⟨a3,c3,n3,-,rfl,-⟩:=O3.rd.opn);(unfold wpList);(refine⟨rfl,?_⟩))
       | ((refine step_of_list rfl ?_);(go_loud (refine wpList_catA rfl (.tmp 37) (.tmp 39) 58 rfl Tryz.underlying58 Tryz.infoInt wr.heap.size v1 (0+k) _ (by rfl) (by first | exact o1 | exact o1.alloc _) _ 1 _ [n] (by rfl) rfl (fun e=>by cases e) (fun _=>⟨_,0,rfl,one_cell (by first | exact cn1 | exact(NN1 _ lt2 ne2).trans cn2 | exact(NN1 _ lt3 ne3).trans cn3)⟩) (by omega) (by first | exact B1.size | exact size_alloc B1.size) ?_));(intro v2 w2 o2 g2);(have B2:Below wr.heap.size wr w2:=Below.grown (by first | exact B1 | exact B1.alloc B1.size _) g2 (by first | exact B1.size | exact size_alloc B1.size) (fun q hq=>(o1.lt q hq).1));(unfold wpList);(refine⟨rfl,?_⟩)))
      all_goals
       have OO:=Lib.hid (O3.mono hb)
       have OL:=Lib.hid (fun q hq=>(O3.lt q hq).1)
       have HB3:=Lib.hid B3
       clear o3 O3 B3
       go_wp2
       go_ret
       exact⟨_,rfl,by rw[HP.out,HE.out];simpa using OO.out,fun q hq=> .inr (OL.out q hq),HB3.out⟩
  · obtain rfl:m=k:=by omega
    have HE:=Lib.hid (HPN.out m (Nat.le_refl _) HL.out (fun h=>absurd h (Nat.lt_irrefl m)))
    rw[List.take_of_length_le (Nat.le_of_eq HM.out),List.drop_of_length_le (Nat.le_of_eq HM.out)] at HE
    rcases HAN.out with ⟨rfl,rfl,rfl⟩ | ⟨b,off,rfl⟩
    · have HXE:=Lib.hid (show xs=[] from List.eq_nil_of_length_eq_zero HM.out)
      rw[HXE.out] at HE
      go_wp2
      go_region_law (first
       | ((refine step_of_list rfl ?_);(go_loud (refine wpList_catA rfl (.tmp 33) (.tmp 36) 58 rfl Tryz.underlying58 Tryz.infoInt wr.heap.size _ 0 [] (by rfl) (by first | exact own_made1 | exact own_made2 | exact own_made3) none 0 0 [] (by rfl) rfl (fun _=>⟨rfl,rfl⟩) (fun h=>absurd h (Nat.lt_irrefl 0)) (by omega) (by first | exact bel1.size | exact bel2.size) ?_));(intro v1 w1 o1 g1);(have B1:Below wr.heap.size wr w1:=Below.grown (by first | exact bel1 | exact bel2) g1 (by first | exact bel1.size | exact bel2.size) (fun q hq=>(by have hq2:=Option.some.inj hq;rw[←hq2];first | exact Nat.le_refl _ | exact Nat.le_succ _)));(have NN1:=fun c h1 h2=>g1.cell_far ⟨c,0,none⟩ h1 h2);(unfold wpList);(refine⟨rfl,?_⟩))
       | ((refine step_of_list rfl ?_);(go_loud (refine wpList_catA rfl (.tmp 40) (.tmp 43) 58 rfl Tryz.underlying58 Tryz.infoInt wr.heap.size v2 (0+0+1) _ (by rfl) o2 none 0 0 [] (by rfl) rfl (fun _=>⟨rfl,rfl⟩) (fun h=>absurd h (Nat.lt_irrefl 0)) (by omega) B2.size ?_));(intro v3 w3 o3 g3);(have B3:Below wr.heap.size wr w3:=Below.grown B2 g3 B2.size (fun q hq=>(o2.lt q hq).1));(have O3:=own_of_row o3);(obtain⟨a3,c3,n3,-,rfl,-⟩:=O3.rd.opn);(unfold wpList);(refine⟨rfl,?_⟩))
       | ((refine step_of_list rfl ?_);(go_loud (refine wpList_catA rfl (.tmp 37) (.tmp 39) 58 rfl Tryz.underlying58 Tryz.infoInt wr.heap.size v1 (0+0) _ (by rfl) (by first | exact o1 | exact o1.alloc _) _ 1 _ [n] (by rfl) rfl (fun e=>by cases e) (fun _=>⟨_,0,rfl,one_cell (by first | exact cn1 | exact(NN1 _ lt2 ne2).trans cn2 | exact(NN1 _ lt3 ne3).trans cn3)⟩) (by omega) (by first | exact B1.size | exact size_alloc B1.size) ?_));(intro v2 w2 o2 g2);(have B2:Below wr.heap.size wr w2:=Below.grown (by first | exact B1 | exact B1.alloc B1.size _) g2 (by first | exact B1.size | exact size_alloc B1.size) (fun q hq=>(o1.lt q hq).1));(unfold wpList);(refine⟨rfl,?_⟩)))
      all_goals
       have OO:=Lib.hid (O3.mono hb)
       have OL:=Lib.hid (fun q hq=>(O3.lt q hq).1)
       have HB3:=Lib.hid B3
       clear o3 O3 B3
       go_wp2
       go_ret
       exact⟨_,rfl,by rw[HP.out,HE.out];simpa using OO.out,fun q hq=> .inr (OL.out q hq),HB3.out⟩
    · have HTK:=Lib.hid (fun(h0:0<m) (W:World) (hW:Below wr.heap.size wr W)=>show∀j,j<m→W.cell? ⟨b,off+j,none⟩=some (.int .i64 (xs[j]?.getD 0)) from by
       obtain⟨b',off',e,hbs,hcs⟩:=HA.out h0
       simp only[Option.some.injEq,Addr.mk.injEq,and_true] at e
       obtain⟨rfl,rfl⟩:=e
       exact fun j hj=>(hW.cell hbs).trans (hcs j hj))
      have i1:(0:Int)≤(m:Int):=by omega
      have i2:(m:Int)≤(cap:Int):=by omega
      have i5:¬m<m:=by omega
      clear HA hlt HAN
      by_cases hcm:cap=m
      · obtain rfl:m=cap:=hcm.symm
        clear hcm
        go_wp2
        go_region_law (first
         | ((refine step_of_list rfl ?_);(go_loud (refine wpList_catA rfl (.tmp 33) (.tmp 36) 58 rfl Tryz.underlying58 Tryz.infoInt wr.heap.size _ 0 [] (by rfl) (by first | exact own_made1 | exact own_made2 | exact own_made3) _ m _ xs (by rfl) HM.out (fun e=>by cases e) (fun h0=>⟨b,off,rfl,HTK.out h0 _ (by first | exact bel1 | exact bel2)⟩) (by omega) (by first | exact bel1.size | exact bel2.size) ?_));(intro v1 w1 o1 g1);(have B1:Below wr.heap.size wr w1:=Below.grown (by first | exact bel1 | exact bel2) g1 (by first | exact bel1.size | exact bel2.size) (fun q hq=>(by have hq2:=Option.some.inj hq;rw[←hq2];first | exact Nat.le_refl _ | exact Nat.le_succ _)));(have NN1:=fun c h1 h2=>g1.cell_far ⟨c,0,none⟩ h1 h2);(unfold wpList);(refine⟨rfl,?_⟩))
         | ((refine step_of_list rfl ?_);(go_loud (refine wpList_catA rfl (.tmp 40) (.tmp 43) 58 rfl Tryz.underlying58 Tryz.infoInt wr.heap.size v2 (0+m+1) _ (by rfl) o2 _ 0 _ [] (by rfl) rfl (fun e=>by cases e) (fun h=>absurd h (Nat.lt_irrefl 0)) (by omega) B2.size ?_));(intro v3 w3 o3 g3);(have B3:Below wr.heap.size wr w3:=Below.grown B2 g3 B2.size (fun q hq=>(o2.lt q hq).1));(have O3:=own_of_row o3);(obtain⟨a3,c3,n3,-,rfl,-⟩:=O3.rd.opn);(unfold wpList);(refine⟨rfl,?_⟩))
         | ((refine step_of_list rfl ?_);(go_loud (refine wpList_catA rfl (.tmp 37) (.tmp 39) 58 rfl Tryz.underlying58 Tryz.infoInt wr.heap.size v1 (0+m) _ (by rfl) (by first | exact o1 | exact o1.alloc _) _ 1 _ [n] (by rfl) rfl (fun e=>by cases e) (fun _=>⟨_,0,rfl,one_cell (by first | exact cn1 | exact(NN1 _ lt2 ne2).trans cn2 | exact(NN1 _ lt3 ne3).trans cn3)⟩) (by omega) (by first | exact B1.size | exact size_alloc B1.size) ?_));(intro v2 w2 o2 g2);(have B2:Below wr.heap.size wr w2:=Below.grown (by first | exact B1 | exact B1.alloc B1.size _) g2 (by first | exact B1.size | exact size_alloc B1.size) (fun q hq=>(o1.lt q hq).1));(unfold wpList);(refine⟨rfl,?_⟩)))
        all_goals
         have OO:=Lib.hid (O3.mono hb)
         have OL:=Lib.hid (fun q hq=>(O3.lt q hq).1)
         have HB3:=Lib.hid B3
         clear o3 O3 B3
         go_wp2
         go_ret
         exact⟨_,rfl,by rw[HP.out,HE.out];simpa using OO.out,fun q hq=> .inr (OL.out q hq),HB3.out⟩
      · have hck:¬cap-m=0:=by omega
        go_wp2
        go_region_law (first
         | ((refine step_of_list rfl ?_);(go_loud (refine wpList_catA rfl (.tmp 33) (.tmp 36) 58 rfl Tryz.underlying58 Tryz.infoInt wr.heap.size _ 0 [] (by rfl) (by first | exact own_made1 | exact own_made2 | exact own_made3) _ m _ xs (by rfl) HM.out (fun e=>by cases e) (fun h0=>⟨b,off,rfl,HTK.out h0 _ (by first | exact bel1 | exact bel2)⟩) (by omega) (by first | exact bel1.size | exact bel2.size) ?_));(intro v1 w1 o1 g1);(have B1:Below wr.heap.size wr w1:=Below.grown (by first | exact bel1 | exact bel2) g1 (by first | exact bel1.size | exact bel2.size) (fun q hq=>(by have hq2:=Option.some.inj hq;rw[←hq2];first | exact Nat.le_refl _ | exact Nat.le_succ _)));(have NN1:=fun c h1 h2=>g1.cell_far ⟨c,0,none⟩ h1 h2);(unfold wpList);(refine⟨rfl,?_⟩))
         | ((refine step_of_list rfl ?_);(go_loud (refine wpList_catA rfl (.tmp 40) (.tmp 43) 58 rfl Tryz.underlying58 Tryz.infoInt wr.heap.size v2 (0+m+1) _ (by rfl) o2 _ 0 _ [] (by rfl) rfl (fun e=>by cases e) (fun h=>absurd h (Nat.lt_irrefl 0)) (by omega) B2.size ?_));(intro v3 w3 o3 g3);(have B3:Below wr.heap.size wr w3:=Below.grown B2 g3 B2.size (fun q hq=>(o2.lt q hq).1));(have O3:=own_of_row o3);(obtain⟨a3,c3,n3,-,rfl,-⟩:=O3.rd.opn);(unfold wpList);(refine⟨rfl,?_⟩))
         | ((refine step_of_list rfl ?_);(go_loud (refine wpList_catA rfl (.tmp 37) (.tmp 39) 58 rfl Tryz.underlying58 Tryz.infoInt wr.heap.size v1 (0+m) _ (by rfl) (by first | exact o1 | exact o1.alloc _) _ 1 _ [n] (by rfl) rfl (fun e=>by cases e) (fun _=>⟨_,0,rfl,one_cell (by first | exact cn1 | exact(NN1 _ lt2 ne2).trans cn2 | exact(NN1 _ lt3 ne3).trans cn3)⟩) (by omega) (by first | exact B1.size | exact size_alloc B1.size) ?_));(intro v2 w2 o2 g2);(have B2:Below wr.heap.size wr w2:=Below.grown (by first | exact B1 | exact B1.alloc B1.size _) g2 (by first | exact B1.size | exact size_alloc B1.size) (fun q hq=>(o1.lt q hq).1));(unfold wpList);(refine⟨rfl,?_⟩)))
        all_goals
         have OO:=Lib.hid (O3.mono hb)
         have OL:=Lib.hid (fun q hq=>(O3.lt q hq).1)
         have HB3:=Lib.hid B3
         clear o3 O3 B3
         go_wp2
         go_ret
         exact⟨_,rfl,by rw[HP.out,HE.out];simpa using OO.out,fun q hq=> .inr (OL.out q hq),HB3.out⟩
theorem Tryz.infoFib:(Tryz.prog.info? 146).map (fun i=>(i.zero,i.size,i.bytes))=some (some (.agg #[.int .i64 0,.int .i64 0,.int .i64 0,.int .i64 0]),4,32):=by kernel_rfl
def fbs (fs:List Fib):List Value:=fs.flatMap fibE
theorem fbs_one {fs:List Fib} :∀u∈fbs fs,u.oneCell'=true:=fun u hu=>by
 unfold fbs at hu
 obtain⟨f,-,h⟩:=List.mem_flatMap.1 hu
 simp[fibE] at h
 rcases h with rfl | rfl | rfl | rfl <;> rfl
theorem wpList_catG {P:Program} {ops:Array Oper} {rest:List Oper} {o:Oper} {a:Act} {Q:Exit→Act→World→Prop} {w:World} (hgd:o.guard=none) (s x:Operand) (T e:TypeId)
 (ho:o.op= .call {callee:= .builtin .append,args:=#[s,x],argTypes:=#[T,T]}) (ht:P.underlying T=some (.slice e)) (z:Value) (size bytes:Nat)
 (hinfo:(P.info? e).map (fun i=>(i.zero,i.size,i.bytes))=some (some z,size,bytes)) (hzs:z.cells.size=size) (hsz:0<size)
 (base:Nat) (v:Value) (n:Nat) (xs:List Value) (hs:a.eval s=v) (hown:w.ownsRow base e size v n xs)
 (ao:Option Addr) (m c:Nat) (ys:List Value) (hx:a.eval x= .slice ao m c) (hm:ys.length=m*size) (hy:ao=none→m=0∧c=0) (hc:∀ad,ao=some ad→ ∀j u,ys[j]?= some u→w.cell? (ad.add j)=some u) (h1:∀u∈ys,u.oneCell'=true) (hn:n+m≤maxLen) (hby:(n+m)*bytes≤140737488355328) (hbase:base≤w.heap.size)
 (h:∀v' w',w'.ownsRow base e size v' (n+m) (xs++ys)→w.grownBy w' v.ownBlock→(v'.ownBlock=v.ownBlock∨v'.ownBlock=some w.heap.size)→wpList P ops Q rest (a.put o.dst v') w'):
 wpList P ops Q (o::rest) a w:=by
 obtain⟨i0,hi,hz0,hz1,hz2⟩:=info_parts hinfo
 rcases ao with _ | ad
 · obtain⟨rfl,rfl⟩:=hy rfl
   have:ys=[]:=List.eq_nil_of_length_eq_zero (by simpa using hm)
   subst this
   refine wpList_append_own_none hgd s x T ho base e i0 size ht hi v n xs hs hown hx ?_
   exact h v w (by simpa using hown) ⟨rfl,rfl,rfl,Nat.le_refl _,fun _ _ _=>rfl⟩ (.inl rfl)
 · refine wpList_append_own_at _ hgd s x T ho base e i0 z size bytes ht hi hz0 hz1 hz2 hzs hsz v n xs hs hown ad m c ys hx hm (hc ad rfl) h1 hn hby hbase ?_
   intro v' w' g1 g2 _ g4
   exact h v' w' g1 g2 g4
theorem addr_add (b off j:Nat):(⟨b,off,none⟩:Addr).add j=⟨b,off+j,none⟩:=by unfold Addr.add;split <;> simp_all
section
variable {w : World} {X Y : Obj} {T : TypeId} {m : Nat}
theorem row_made1:(w.drew.alloc (.cells #[] T)).ownsRow w.heap.size T m (.slice (some ⟨w.heap.size,0,none⟩) 0 0) 0 []:=World.ownsRow_made w.drew #[] 0 (Nat.le_refl _) (Nat.zero_le _) (by simp)
theorem row_made2:((w.drew.alloc (.cells #[] T)).alloc X).ownsRow w.heap.size T m (.slice (some ⟨w.heap.size,0,none⟩) 0 0) 0 []:=row_made1.alloc _
theorem row_made3:((w.drew.alloc X).alloc (.cells #[] T)).ownsRow w.heap.size T m (.slice (some ⟨w.heap.size+1,0,none⟩) 0 0) 0 []:=by
 have:=World.ownsRow_made (base:=w.heap.size) (e:=T) (size:=m) (w.drew.alloc X) #[] 0 (by simp) (Nat.zero_le _) (by simp)
 simpa using this
end
/-! ### The order of routes with the same start -/
def lenR (n:Net) (fs:List Int):Int:=(fs.map fun i=>(fbA n i.toNat).l).sum
def sgnI (x:Int):Int:=if x<0 then -1 else if 0<x then 1 else 0
def lexI:List Int→List Int→Int
 | [],[]=>0
 | [],_::_=> -1
 | _::_,[]=>1
 | a::ar,b::br=>if a<b then -1 else if b<a then 1 else lexI ar br
def cmpR (n:Net) (a b:List Int):Int:=
 if lenR n a=lenR n b then(if a.length=b.length then lexI a b else sgnI ((a.length:Int)-b.length)) else sgnI (lenR n a-lenR n b)
theorem sgnI_neg {x:Int} :sgnI x<0↔x<0:=by
 unfold sgnI;split
 · omega
 · split <;> omega
theorem lexI_self (a:List Int):lexI a a=0:=by
 induction a with
 | nil=>rfl
 | cons x a ih=>rw[lexI,if_neg (by omega),if_neg (by omega),ih]
theorem lexI_eq:∀{a b:List Int},lexI a b=0→a=b
 | [],[],_=>rfl
 | [],_::_,h=>by simp[lexI] at h
 | _::_,[],h=>by simp[lexI] at h
 | a::ar,b::br,h=>by
   rw[lexI] at h
   split at h
   · omega
   · split at h
     · omega
     · rw[lexI_eq h,show a=b by omega]
theorem lexI_flip:∀(a b:List Int),lexI b a= - lexI a b
 | [],[]=>rfl
 | [],_::_=>rfl
 | _::_,[]=>rfl
 | a::ar,b::br=>by
   rw[lexI,lexI]
   by_cases h:a<b
   · rw[if_pos h,if_neg (by omega),if_pos h];rfl
   · rw[if_neg h]
     by_cases h2:b<a
     · rw[if_pos h2,if_pos h2,if_neg h]
     · rw[if_neg h2,if_neg h2,if_neg h];exact lexI_flip ar br
theorem lexI_trans:∀{a b c:List Int},lexI a b<0→lexI b c<0→lexI a c<0
 | [],[],_,h,_=>by simp[lexI] at h
 | [],_::_,[],_,h=>by simp[lexI] at h
 | [],_::_,_::_,_,_=>by simp[lexI]
 | _::_,[],_,h,_=>by simp[lexI] at h
 | _::_,_::_,[],_,h=>by simp[lexI] at h
 | a::ar,b::br,c::cr,h1,h2=>by
   rw[lexI] at h1 h2 ⊢
   by_cases x1:a<b
   · by_cases x2:b<c
     · rw[if_pos (by omega)];omega
     · rw[if_neg x2] at h2
       by_cases x3:c<b
       · rw[if_pos x3] at h2;omega
       · rw[if_pos (by omega)];omega
   · rw[if_neg x1] at h1
     by_cases x3:b<a
     · rw[if_pos x3] at h1;omega
     · rw[if_neg x3] at h1
       obtain rfl:a=b:=by omega
       by_cases x2:a<c
       · rw[if_pos x2];omega
       · rw[if_neg x2] at h2 ⊢
         by_cases x4:c<a
         · rw[if_pos x4] at h2;omega
         · rw[if_neg x4] at h2 ⊢
           exact lexI_trans h1 h2
theorem cmpR_self (n:Net) (a:List Int):cmpR n a a=0:=by unfold cmpR;rw[if_pos rfl,if_pos rfl,lexI_self]
theorem cmpR_eq {n:Net} {a b:List Int} (h:cmpR n a b=0):a=b:=by
 unfold cmpR at h
 split at h
 · split at h
   · exact lexI_eq h
   · unfold sgnI at h;split at h
     · omega
     · split at h <;> omega
 · unfold sgnI at h;split at h
   · omega
   · split at h <;> omega
theorem cmpR_tot {n:Net} {a b:List Int} (h:¬cmpR n a b<0) (hne:a≠b):cmpR n b a<0:=by
 have h0:cmpR n a b≠0:=fun e=>hne (cmpR_eq e)
 unfold cmpR at h h0 ⊢
 by_cases e1:lenR n a=lenR n b
 · rw[if_pos e1] at h h0;rw[if_pos e1.symm]
   by_cases e2:a.length=b.length
   · rw[if_pos e2] at h h0;rw[if_pos e2.symm,lexI_flip a b];omega
   · rw[if_neg e2] at h h0;rw[if_neg (fun e=>e2 e.symm)]
     rw[sgnI_neg] at h ⊢;omega
 · rw[if_neg e1] at h h0;rw[if_neg (fun e=>e1 e.symm)]
   rw[sgnI_neg] at h ⊢;omega
theorem cmpR_asym {n:Net} {a b:List Int} (h:cmpR n a b<0):¬cmpR n b a<0:=by
 intro h2
 unfold cmpR at h h2
 by_cases e1:lenR n a=lenR n b
 · rw[if_pos e1] at h;rw[if_pos e1.symm] at h2
   by_cases e2:a.length=b.length
   · rw[if_pos e2] at h;rw[if_pos e2.symm,lexI_flip a b] at h2;omega
   · rw[if_neg e2,sgnI_neg] at h;rw[if_neg (fun e=>e2 e.symm),sgnI_neg] at h2;omega
 · rw[if_neg e1,sgnI_neg] at h;rw[if_neg (fun e=>e1 e.symm),sgnI_neg] at h2;omega
theorem cmpR_trans {n:Net} {a b c:List Int} (h1:cmpR n a b<0) (h2:cmpR n b c<0):cmpR n a c<0:=by
 unfold cmpR at h1 h2 ⊢
 by_cases e1:lenR n a=lenR n b
 · rw[if_pos e1] at h1
   by_cases e2:lenR n b=lenR n c
   · rw[if_pos e2] at h2;rw[if_pos (e1.trans e2)]
     by_cases l1:a.length=b.length
     · rw[if_pos l1] at h1
       by_cases l2:b.length=c.length
       · rw[if_pos l2] at h2;rw[if_pos (l1.trans l2)];exact lexI_trans h1 h2
       · rw[if_neg l2,sgnI_neg] at h2;rw[if_neg (by omega),sgnI_neg];omega
     · rw[if_neg l1,sgnI_neg] at h1
       by_cases l2:b.length=c.length
       · rw[if_neg (by omega),sgnI_neg];omega
       · rw[if_neg l2,sgnI_neg] at h2;rw[if_neg (by omega),sgnI_neg];omega
   · rw[if_neg e2,sgnI_neg] at h2;rw[if_neg (by omega),sgnI_neg];omega
 · rw[if_neg e1,sgnI_neg] at h1
   by_cases e2:lenR n b=lenR n c
   · rw[if_neg (by omega),sgnI_neg];omega
   · rw[if_neg e2,sgnI_neg] at h2;rw[if_neg (by omega),sgnI_neg];omega
/-! ### A route inserted at its place -/
def plcR (n:Net) (r:List Int) (L:List (List Int)):Nat→Nat
 | 0=>0
 | i+1=>if cmpR n r (L[i]?.getD [])<0 then plcR n r L i else i+1
def insR (n:Net) (L:List (List Int)) (r:List Int):List (List Int):=L.take (plcR n r L L.length)++r::L.drop (plcR n r L L.length)
theorem plcR_le (n:Net) (r:List Int) (L:List (List Int)):∀i,plcR n r L i≤i
 | 0=>Nat.le_refl _
 | i+1=>by
   rw[plcR];split
   · exact Nat.le_succ_of_le (plcR_le n r L i)
   · exact Nat.le_refl _
theorem plcR_hi {n:Net} {r:List Int} {L:List (List Int)} :∀{i k:Nat},plcR n r L i≤k→k<i→cmpR n r (L[k]?.getD [])<0
 | 0,_,_,h=>by omega
 | i+1,k,h1,h2=>by
   rw[plcR] at h1
   split at h1
   · rename_i hc
     by_cases e:k=i
     · rw[e];exact hc
     · exact plcR_hi h1 (by omega)
   · omega
theorem plcR_lo {n:Net} {r:List Int} {L:List (List Int)} :∀{i:Nat},0<plcR n r L i→ ¬cmpR n r (L[plcR n r L i-1]?.getD [])<0
 | 0,h=>by simp[plcR] at h
 | i+1,h=>by
   rw[plcR] at h ⊢
   split at h
   · rename_i hc
     rw[if_pos hc];exact plcR_lo h
   · rename_i hc
     rw[if_neg hc];exact hc
def srtR (n:Net) (L:List (List Int)):Prop:=L.Pairwise fun a b=>cmpR n a b<0
theorem insR_perm (n:Net) (L:List (List Int)) (r:List Int):(insR n L r).Perm (r::L):=by
 unfold insR
 have:=List.perm_middle (a:=r) (l₁:=L.take (plcR n r L L.length)) (l₂:=L.drop (plcR n r L L.length))
 rwa [List.take_append_drop] at this
theorem insR_len (n:Net) (L:List (List Int)) (r:List Int):(insR n L r).length=L.length+1:=by
 rw[(insR_perm n L r).length_eq];rfl
theorem insR_srt {n:Net} {L:List (List Int)} {r:List Int} (h:srtR n L) (hr:r ∉ L):srtR n (insR n L r):=by
 unfold insR srtR
 have hp:=plcR_le n r L L.length
 have hhi:=fun k h1 h2=>@plcR_hi n r L L.length k h1 h2
 have hlo:=@plcR_lo n r L L.length
 generalize plcR n r L L.length=p at *
 have h':(L.take p++L.drop p).Pairwise fun a b=>cmpR n a b<0:=by rw[List.take_append_drop];exact h
 obtain⟨ha,hb,hab⟩:=List.pairwise_append.1 h'
 refine List.pairwise_append.2 ⟨ha,List.pairwise_cons.2 ⟨fun y hy=> ?_,hb⟩,fun x hx y hy=> ?_⟩
 · obtain⟨k,hk,e⟩:=List.getElem_of_mem hy
   rw[List.length_drop] at hk
   have:=hhi (p+k) (by omega) (by omega)
   rw[List.getElem?_eq_getElem (by omega)] at this
   rw[List.getElem_drop] at e
   rw[←e];exact this
 · rcases List.mem_cons.1 hy with rfl | hy
   · have hp0:0<p:=by
      rcases Nat.eq_zero_or_pos p with e | e
      · rw[e] at hx;simp at hx
      · exact e
     have h1:=hlo hp0
     have hpl:p-1<L.length:=by omega
     rw[List.getElem?_eq_getElem hpl] at h1
     have h2:cmpR n L[p-1] y<0:=cmpR_tot h1 (fun e=>hr (by rw[e];exact List.getElem_mem hpl))
     obtain⟨k,hk,e⟩:=List.getElem_of_mem hx
     rw[List.length_take] at hk
     rw[List.getElem_take] at e
     by_cases hkp:k=p-1
     · subst hkp;rw[←e];exact h2
     · have:=List.pairwise_iff_getElem.1 h k (p-1) (by omega) hpl (by omega)
       rw[e] at this
       exact cmpR_trans this h2
   · exact hab x hx y hy
theorem srtR_one {n:Net} {L M:List (List Int)} (h1:srtR n L) (h2:srtR n M) (hp:L.Perm M):L=M:=
 List.Perm.eq_of_pairwise (le:=fun a b=>cmpR n a b<0) (fun _ _ _ _ x y=>absurd y (cmpR_asym x)) h1 h2 hp
theorem insAll {n:Net} :∀{M L:List (List Int)},srtR n L→(L++M).Nodup→srtR n (M.foldl (insR n) L)∧(M.foldl (insR n) L).Perm (L++M)
 | [],L,h,_=>by simp;exact h
 | r::M,L,h,hn=>by
   have hr:r ∉ L:=fun hr=>by
    have:=(List.nodup_append.1 hn).2.2 r hr r (by simp)
    exact this rfl
   have hp:(insR n L r++M).Perm (L++r::M):=((insR_perm n L r).append_right M).trans List.perm_middle.symm
   obtain⟨a,b⟩:=insAll (M:=M) (insR_srt h hr) (hp.nodup_iff.2 hn)
   exact⟨a,b.trans hp⟩
/-! ### The search -/
def extR (n:Net) (tt:Int):Nat→Int→List Int→List Int→List (List Int)
 | 0,_,_,_=>[]
 | f+1,t,seen,fb=>if t=tt then[fb] else(List.range n.fs.length).flatMap fun i=>if 0≤othE (fbA n i) t∧othE (fbA n i) t ∉ seen then extR n tt f (othE (fbA n i) t) (seen++[othE (fbA n i) t]) (fb++[(i:Int)]) else[]
theorem extR_pre {n:Net} {tt:Int} :∀{f:Nat} {t:Int} {seen fb r:List Int},r∈extR n tt f t seen fb→fb <+:r
 | 0,_,_,_,_,h=>by simp[extR] at h
 | f+1,t,seen,fb,r,h=>by
   rw[extR] at h
   split at h
   · simp at h;subst h;exact List.prefix_rfl
   · obtain⟨i,-,hi⟩:=List.mem_flatMap.1 h
     split at hi
     · exact(List.prefix_append fb _).trans (extR_pre hi)
     · cases hi
theorem extR_nodup {n:Net} {tt:Int} :∀{f:Nat} {t:Int} {seen fb:List Int},(extR n tt f t seen fb).Nodup
 | 0,_,_,_=>by simp[extR]
 | f+1,t,seen,fb=>by
   rw[extR]
   split
   · simp
   · refine List.pairwise_flatMap.2 ⟨fun i _=> ?_,List.nodup_range.imp fun {i j} hij x hx y hy e=> ?_⟩
     · split
       · exact extR_nodup
       · simp
     · subst e
       split at hx
       · split at hy
         · obtain⟨u,hu⟩:=extR_pre hx
           obtain⟨v,hv⟩:=extR_pre hy
           rw[←hu] at hv
           simp only[List.append_assoc,List.append_cancel_left_eq] at hv
           simp at hv
           exact hij (by have:=hv.1;omega)
         · cases hy
       · cases hx
def feedR (n:Net) (L M:List (List Int)):List (List Int):=(M.take (201-L.length)).foldl (insR n) L
theorem fold_len (n:Net):∀(M L:List (List Int)),(M.foldl (insR n) L).length=L.length+M.length
 | [],L=>by simp
 | r::M,L=>by rw[List.foldl_cons,fold_len n M,insR_len,List.length_cons];omega
theorem feedR_len {n:Net} {L M:List (List Int)} (h:L.length≤201):(feedR n L M).length=min 201 (L.length+M.length):=by
 unfold feedR;rw[fold_len,List.length_take];omega
theorem feedR_nil (n:Net) (L:List (List Int)):feedR n L []=L:=by simp[feedR]
theorem feedR_full {n:Net} {L M:List (List Int)} (h:201≤L.length):feedR n L M=L:=by
 unfold feedR;rw[show 201-L.length=0 by omega];simp
theorem feedR_one {n:Net} {L:List (List Int)} {r:List Int} (h:L.length≤200):feedR n L [r]=insR n L r:=by
 unfold feedR;rw[List.take_of_length_le (by simp;omega)];rfl
theorem feedR_app {n:Net} {L A B:List (List Int)} (h:L.length≤201):feedR n (feedR n L A) B=feedR n L (A++B):=by
 have hl:=feedR_len (n:=n) (M:=A) h
 unfold feedR at hl ⊢
 rw[hl,List.take_append,List.foldl_append]
 congr 2
 omega
def allR (n:Net) (from_ tt:Int):List (List Int):=feedR n [] (extR n tt (n.ns.length+1) from_ [from_] [])
theorem allR_srt (n:Net) (from_ tt:Int) (h:(extR n tt (n.ns.length+1) from_ [from_] []).length≤200):srtR n (allR n from_ tt)∧(allR n from_ tt).Perm (extR n tt (n.ns.length+1) from_ [from_] []):=by
 unfold allR feedR
 rw[List.take_of_length_le (by simp;omega)]
 have:=insAll (n:=n) (L:=[]) (M:=extR n tt (n.ns.length+1) from_ [from_] []) List.Pairwise.nil (by simpa using extR_nodup)
 simpa using this
theorem allR_len (n:Net) (from_ tt:Int):(allR n from_ tt).length=min 201 (extR n tt (n.ns.length+1) from_ [from_] []).length:=by
 unfold allR;rw[feedR_len (by simp)];simp
theorem allR_one {n:Net} {from_ tt:Int} {L:List (List Int)} (h:(extR n tt (n.ns.length+1) from_ [from_] []).length≤200) (hs:L.Pairwise fun a b=>¬cmpR n b a<0) (hp:L.Perm (extR n tt (n.ns.length+1) from_ [from_] [])):L=allR n from_ tt:=by
 obtain⟨h1,h2⟩:=allR_srt n from_ tt h
 have hn:L.Nodup:=hp.nodup_iff.2 extR_nodup
 refine srtR_one ?_ h1 (hp.trans h2.symm)
 exact(List.Pairwise.and hs hn).imp fun {a b} ⟨x,y⟩=>cmpR_tot x (fun e=>y e.symm)
def plI (xs:List Int) (x:Int):Int:=match xs.findIdx? (fun s=>s==x) with | some i=>(i:Int) | none=> -1
theorem plI_none {xs:List Int} {x:Int} (h:xs.any (fun s=>s==x)=false):plI xs x= -1:=by
 unfold plI
 rw[List.findIdx?_eq_none_iff.2 fun s hs=>by
  have:=(List.any_eq_false.1 h) s hs
  simpa using this]
theorem plI_some {xs:List Int} {x:Int} {k:Nat} (hk:k<xs.length) (h:(xs.take k).any (fun s=>s==x)=false) (e:xs[k]?.getD 0=x):plI xs x=(k:Int):=by
 rw[List.getElem?_eq_getElem hk] at e
 unfold plI
 rw[List.findIdx?_eq_some_iff_getElem.2 ⟨hk,by simpa using e,fun j hj=>by
  have:=(List.any_eq_false.1 h) (xs[j]'(by omega)) (List.mem_take_iff_getElem.2 ⟨j,by omega,rfl⟩)
  simpa using this⟩]
theorem anyI_more {xs:List Int} {x:Int} {k:Nat} (hk:k<xs.length) (h:(xs.take k).any (fun s=>s==x)=false) (e:xs[k]?.getD 0≠x):(xs.take (k+1)).any (fun s=>s==x)=false:=by
 rw[List.getElem?_eq_getElem hk] at e
 rw[List.take_add_one,List.any_append,h,List.getElem?_eq_getElem hk]
 simpa using e
theorem plI_geq (xs:List Int) (x:Int):decide (0≤plI xs x)=xs.contains x:=by
 cases h:xs.findIdx? (fun s=>s==x) with
 | none=>
   have h0:=h
   rw[List.findIdx?_eq_none_iff] at h
   unfold plI
   rw[h0]
   have:xs.contains x=false:=by
    rw[←Bool.not_eq_true,List.contains_iff_mem]
    intro hm
    have:=h x hm
    simp at this
   rw[this];rfl
 | some k=>
   have h0:=h
   rw[List.findIdx?_eq_some_iff_getElem] at h
   obtain⟨hk,e,_⟩:=h
   unfold plI
   rw[h0]
   have:xs.contains x=true:=by rw[List.contains_iff_mem];have:=List.getElem_mem hk;rw[eq_of_beq e] at this;exact this
   rw[this];simp
theorem hasI_yes {xs:List Int} {x:Int} {k:Nat} (hk:k<xs.length) (e:xs[k]?.getD 0=x):xs.contains x=true:=by
 rw[List.getElem?_eq_getElem hk] at e
 rw[List.contains_iff_mem,←show xs[k]=x from e];exact List.getElem_mem hk
theorem hasI_no {xs:List Int} {x:Int} (h:xs.any (fun s=>s==x)=false):xs.contains x=false:=by
 rw[←Bool.not_eq_true,List.contains_iff_mem]
 intro hm
 have:=(List.any_eq_false.1 h) x hm
 simp at this
theorem indexI_any (v:Value) (xs:List Int) (x:Int) (w:World) (h:Rd w v xs):
 Calls Tryz.prog 118 #[v,.int .i64 x] w fun e w'=>e= .returned (.int .i64 (plI xs x))∧w=w':=by
 obtain⟨a,cap,n,HN,rfl,_,hnl,ha⟩:=h.opn
 have HA:=Lib.hid ha
 have HP:=Lib.hid (fun k (hk:k<xs.length)=>@plI_some xs x k hk)
 have HM:=Lib.hid (fun k (hk:k<xs.length)=>@anyI_more xs x k hk)
 have HO:=Lib.hid (@plI_none xs x)
 clear ha h
 generalize plI xs x=r at *
 go_enter Tryz.func118,Tryz.ntmps118
 go_wp2
 go_loop [5,8] (fun _ i=>∃k:Nat,k≤n∧i= .int .i64 k∧Hid ((xs.take k).any (fun s=>s==x)=false)) (fun _ i=>n-(intOf i).toNat)
 case atStart=>exact⟨0,Nat.zero_le _,rfl,by simp[Hid]⟩
 case round=>
  obtain⟨k,hk,rfl,HT⟩:=hrel
  by_cases hlt:k<n
  · have hltI:(k:Int)<(n:Int):=by omega
    have hkx:k<xs.length:=by rw[HN.out];exact hlt
    obtain⟨b,off,rfl,hbs,hcs⟩:=HA.out (by omega)
    have hc0:=hcs k hlt
    have HP1:=Lib.hid (HP.out k hkx HT.out)
    have HM1:=Lib.hid (HM.out k hkx HT.out)
    clear hcs hkx
    generalize xs[k]?.getD 0=y at *
    by_cases he:y=x
    · have HE:=Lib.hid (HP1.out he)
      have hb1:(x==y)=true:=by simp[he]
      have hb2:(y==x)=true:=by simp[he]
      clear he
      go_wp2
      go_ret
      exact⟨by rw[HE.out];rfl,rfl⟩
    · have HE:=Lib.hid (HM1.out he)
      have hb1:(x==y)=false:=by simp;exact fun e=>he e.symm
      have hb2:(y==x)=false:=by simp[he]
      clear he
      go_wp2
      go_round
      case rel=>exact⟨k+1,by omega,by go_num,HE.out⟩
      case measure=>simp[intOf];omega
  · obtain rfl:k=n:=by omega
    have hall:=HT.out
    rw[←HN.out,List.take_length] at hall
    have HE:=Lib.hid (HO.out hall)
    clear hall
    go_wp2
    go_ret
    exact⟨by rw[HE.out];rfl,rfl⟩
theorem containsI_any (v:Value) (xs:List Int) (x:Int) (w:World) (h:Rd w v xs):
 Calls Tryz.prog 65 #[v,.int .i64 x] w fun e w'=>e= .returned (.bool (xs.contains x))∧w=w':=by
 have HI:=Lib.hid (indexI_any v xs x w h)
 have HG:=Lib.hid (plI_geq xs x)
 generalize plI xs x=r at *
 generalize xs.contains x=q at *
 obtain⟨a,cap,n,-,rfl,-,-,-⟩:=h.opn
 clear h
 go_enter Tryz.func65,Tryz.ntmps65
 go_wp2_with (go_at_call 118;refine(HI.out).mono ?_;rintro e w' ⟨rfl,rfl⟩)
 go_ret
 exact⟨by rw[←HG.out];rfl,rfl⟩
theorem l1Has_any (v:Value) (xs:List Int) (x:Int) (w:World) (h:Rd w v xs):
 Calls Tryz.prog 59 #[v,.int .i64 x] w fun e w'=>e= .returned (.bool (xs.contains x))∧w=w':=by
 obtain⟨a,cap,n,HN,rfl,_,hnl,ha⟩:=h.opn
 have HA:=Lib.hid ha
 have HP:=Lib.hid (fun k (hk:k<xs.length)=>@hasI_yes xs x k hk)
 have HM:=Lib.hid (fun k (hk:k<xs.length)=>@anyI_more xs x k hk)
 have HO:=Lib.hid (@hasI_no xs x)
 clear ha h
 generalize xs.contains x=r at *
 go_enter Tryz.func59,Tryz.ntmps59
 go_wp2
 go_loop [5] (fun i=>∃k:Nat,k≤n∧i= .int .i64 k∧Hid ((xs.take k).any (fun s=>s==x)=false)) (fun i=>n-(intOf i).toNat)
 case atStart=>exact⟨0,Nat.zero_le _,rfl,by simp[Hid]⟩
 case round=>
  obtain⟨k,hk,rfl,HT⟩:=hrel
  by_cases hlt:k<n
  · have hltI:(k:Int)<(n:Int):=by omega
    have hkx:k<xs.length:=by rw[HN.out];exact hlt
    obtain⟨b,off,rfl,hbs,hcs⟩:=HA.out (by omega)
    have hc0:=hcs k hlt
    have HP1:=Lib.hid (HP.out k hkx)
    have HM1:=Lib.hid (HM.out k hkx HT.out)
    clear hcs hkx
    generalize xs[k]?.getD 0=y at *
    by_cases he:y=x
    · have HE:=Lib.hid (HP1.out he)
      have hb2:(y==x)=true:=by simp[he]
      clear he
      go_wp2
      go_ret
      exact⟨by rw[HE.out];rfl,rfl⟩
    · have HE:=Lib.hid (HM1.out he)
      have hb2:(y==x)=false:=by simp[he]
      clear he
      go_wp2
      go_round
      case rel=>exact⟨k+1,by omega,by go_num,HE.out⟩
      case measure=>simp[intOf];omega
  · obtain rfl:k=n:=by omega
    have hall:=HT.out
    rw[←HN.out,List.take_length] at hall
    have HE:=Lib.hid (HO.out hall)
    clear hall
    go_wp2
    go_ret
    exact⟨by rw[HE.out];rfl,rfl⟩
theorem othE_a {f:Fib} {t:Int} (h:t=f.a):othE f t=f.b:=by unfold othE;rw[if_pos h]
theorem othE_b {f:Fib} {t:Int} (h:¬t=f.a) (h2:t=f.b):othE f t=f.a:=by unfold othE;rw[if_neg h,if_pos h2]
theorem othE_no {f:Fib} {t:Int} (h:¬t=f.a) (h2:¬t=f.b):othE f t= -1:=by unfold othE;rw[if_neg h,if_neg h2]
theorem otherEnd_any (f:Fib) (t:Int) (w:World):
 Calls Tryz.prog 179 #[fibV f,.int .i64 t] w fun e w'=>e= .returned (.int .i64 (othE f t))∧Below w.heap.size w w':=by
 unfold fibV
 have HA:=Lib.hid (@othE_a f t)
 have HB:=Lib.hid (@othE_b f t)
 have HN:=Lib.hid (@othE_no f t)
 obtain⟨bx,bc,-,-⟩:=box_facts w #[.int .i64 f.a,.int .i64 f.b,.int .i64 f.l,.int .i64 f.r] 146
 have q0:=bc 0 _ rfl
 have q1:=bc 1 _ rfl
 have HBX:=Lib.hid bx
 clear bc bx
 generalize othE f t=o at *
 by_cases h1:t=f.a
 · have HE:=Lib.hid (HA.out h1)
   have b1:(t==f.a)=true:=by simp[h1]
   have b2:decide (t=f.a)=true:=by simp[h1]
   clear h1
   go_enter Tryz.func179,Tryz.ntmps179
   go_wp2
   go_ret
   exact⟨by rw[HE.out];rfl,HBX.out⟩
 have b1:(t==f.a)=false:=by simp[h1]
 have b2:decide (t=f.a)=false:=by simp[h1]
 by_cases h2:t=f.b
 · have HE:=Lib.hid (HB.out h1 h2)
   have b3:(t==f.b)=true:=by simp[h2]
   have b4:decide (t=f.b)=true:=by simp[h2]
   clear h1 h2
   go_enter Tryz.func179,Tryz.ntmps179
   go_wp2
   go_ret
   exact⟨by rw[HE.out];rfl,HBX.out⟩
 have b3:(t==f.b)=false:=by simp[h2]
 have b4:decide (t=f.b)=false:=by simp[h2]
 have HE:=Lib.hid (HN.out h1 h2)
 clear h1 h2
 go_enter Tryz.func179,Tryz.ntmps179
 go_wp2
 go_ret
 exact⟨by rw[HE.out];rfl,HBX.out⟩
theorem l2Other_any (u1 u2:Value) (n:Net) (k:Nat) (t:Int) (w:World) (h:Rdt w (flt 4 fibE n.fs) u2) (h1:∃a m c,u1= .slice a m c) (hk:k<n.fs.length):
 Calls Tryz.prog 232 #[.agg #[u1,u2],.int .i64 k,.int .i64 t] w fun e w'=>e= .returned (.int .i64 (othE (fbA n k) t))∧Below w.heap.size w w':=by
 obtain⟨a1,m1,c1,rfl⟩:=h1
 obtain⟨a2,m2,c2,rfl,HN2,hc2,hm2,ha2⟩:=flt_opn (m:=4) (enc:=fibE) (fun _=>rfl) (by omega) nilB h
 have hk2:k<m2:=by have:=HN2.out;omega
 obtain⟨b,off,rfl,hbs,hcs⟩:=ha2 (by omega)
 obtain⟨bx,bc,-,-⟩:=box_facts w #[.slice a1 m1 c1,.slice (some ⟨b,off,none⟩) m2 c2] 35
 have q0:=bc 0 _ rfl
 have q1:=bc 1 _ rfl
 have HBX:=Lib.hid bx
 have e0:=(bx.cell (p:=⟨b,off+k*4+0,none⟩) hbs).trans (hcs k hk2 0 _ rfl)
 have e1:=(bx.cell (p:=⟨b,off+k*4+1,none⟩) hbs).trans (hcs k hk2 1 _ rfl)
 have e2:=(bx.cell (p:=⟨b,off+k*4+2,none⟩) hbs).trans (hcs k hk2 2 _ rfl)
 have e3:=(bx.cell (p:=⟨b,off+k*4+3,none⟩) hbs).trans (hcs k hk2 3 _ rfl)
 simp only[Nat.add_zero] at e0
 have hkI:(k:Int)<(m2:Int):=by omega
 unfold fbA
 clear hcs bc bx ha2 h hk
 generalize n.fs[k]?.getD nilB=f at *
 have HA:=Lib.hid (@othE_a f t)
 have HB:=Lib.hid (@othE_b f t)
 have HN:=Lib.hid (@othE_no f t)
 have HBY:=Lib.hid (fun(w1:World)=>(box_facts w1 #[.int .i64 f.a,.int .i64 f.b,.int .i64 f.l,.int .i64 f.r] 146).1)
 generalize othE f t=o at *
 go_enter Tryz.func232,Tryz.ntmps232
 by_cases h1:t=f.a
 · have HE:=Lib.hid (HA.out h1)
   have b1:(t==f.a)=true:=by simp[h1]
   have b2:decide (t=f.a)=true:=by simp[h1]
   clear h1
   go_wp2
   go_ret
   exact⟨by rw[HE.out];rfl,HBX.out.trans ((HBY.out _).mono HBX.out.size)⟩
 have b1:(t==f.a)=false:=by simp[h1]
 have b2:decide (t=f.a)=false:=by simp[h1]
 by_cases h2:t=f.b
 · have HE:=Lib.hid (HB.out h1 h2)
   have b3:(t==f.b)=true:=by simp[h2]
   have b4:decide (t=f.b)=true:=by simp[h2]
   clear h1 h2
   go_wp2
   go_ret
   exact⟨by rw[HE.out];rfl,HBX.out.trans ((HBY.out _).mono HBX.out.size)⟩
 have b3:(t==f.b)=false:=by simp[h2]
 have b4:decide (t=f.b)=false:=by simp[h2]
 have HE:=Lib.hid (HN.out h1 h2)
 clear h1 h2
 go_wp2
 go_ret
 exact⟨by rw[HE.out];rfl,HBX.out.trans ((HBY.out _).mono HBX.out.size)⟩
end Go.Proofs.YtofcicomhnkocaaGreat
