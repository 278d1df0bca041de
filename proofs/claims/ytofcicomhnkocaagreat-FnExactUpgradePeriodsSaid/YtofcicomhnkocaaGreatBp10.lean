/- Joined: XDrh XDri XSlc XIns XDlt. -/
import Derived.Test.YtofcicomhnkocaaGreatBp09
import Derived.Test.YtofcicomhnkocaaGreatBp07
import Derived.Test.YtofcicomhnkocaaGreatBp03
import Derived.Test.YtofcicomhnkocaaGreatBp06
import Derived.Test.YtofcicomhnkocaaGreatBp08
import Derived.Test.YtofcicomhnkocaaGreatBp04
import Derived.Test.YtofcicomhnkocaaGreatBp01
import Derived.Lib.QuietBelow
import Derived.Shelf.Spec.SlicesInsertGrow
import Derived.Lib.SliceRun
import Derived.Deep.Upon
set_option linter.unusedVariables false
namespace Go.Proofs.YtofcicomhnkocaaGreat
set_option maxHeartbeats 6400000
open Go.RowKit Go.Sort
set_option maxRecDepth 100000
theorem Tryz.infoStrD:(Tryz.prog.info? 9).map (fun i=>(i.zero,i.size,i.bytes))=some (some (.string ⟨#[]⟩),1,16):=by kernel_rfl
section
variable {W w5 : World} {X : Obj} {T : TypeId} {m : Nat}
theorem mk_kept3 (g:((W.drew.alloc X).alloc (.cells #[] T)).grownBy w5 (some W.heap.size)):w5.ownsRow W.heap.size T m (.slice (some ⟨W.heap.size+1,0,none⟩) 0 0) 0 []:=
 row_kept0 row_made3 fun q hq=>g.block q (World.ownsRow.lt (row_made3 (X:=X) (T:=T) (m:=m)) q hq).2 fun e=>by
  have h1:W.heap.size+1=q:=Option.some.inj hq
  have h2:=Option.some.inj e
  omega
theorem mk_kept2 (g:((W.drew.alloc (.cells #[] T)).alloc X).grownBy w5 (some (W.heap.size+1))):w5.ownsRow W.heap.size T m (.slice (some ⟨W.heap.size,0,none⟩) 0 0) 0 []:=
 row_kept0 row_made2 fun q hq=>g.block q (World.ownsRow.lt (row_made2 (X:=X) (T:=T) (m:=m)) q hq).2 fun e=>by
  have h1:W.heap.size=q:=Option.some.inj hq
  have h2:=Option.some.inj e
  omega
end
theorem two_rows {w5 wA w10:World} {base s3 b3 b7 m1 n1:Nat} {T1:TypeId} {us1:List Value} {v5 v10:Value} (o5:w5.ownsRow base T1 m1 v5 n1 us1) (hA:Below w5.heap.size w5 wA) (g10:wA.grownBy w10 (some b7)) (l10:v10.ownBlock=some b7∨v10.ownBlock=some wA.heap.size) (l5:v5.ownBlock=some b3∨v5.ownBlock=some s3) (hd:(b3≠b7∧s3≠b7)∨w5.heap.size≤b7):w10.ownsRow base T1 m1 v5 n1 us1∧Apt v5 v10:=by
 have hlt:=fun q hq=>(World.ownsRow.lt o5 q hq).2
 have hne:∀q,v5.ownBlock=some q→q≠b7:=fun q hq=>by
  have h1:=hlt q hq
  rcases hd with ⟨h2,h3⟩ | h2
  · rcases l5 with l | l
    · rw[l] at hq;have:=Option.some.inj hq;omega
    · rw[l] at hq;have:=Option.some.inj hq;omega
  · omega
 refine⟨row_kept0 o5 fun q hq=>(g10.block q (Nat.lt_of_lt_of_le (hlt q hq) hA.size) fun e=>hne q hq (Option.some.inj e)).trans (hA.block q (hlt q hq)),fun q hq e=> ?_⟩
 rcases l10 with l | l
 · rw[l] at e;exact hne q hq (Option.some.inj e).symm
 · rw[l] at e
   have h1:=Option.some.inj e
   have h2:=hlt q hq
   have h3:=hA.size
   omega
def OwnRtP (st:Int) (xs:List Int) (w:World) (e:Ending) (w':World):Prop:=∃v',e= .returned (.agg #[.int .i64 st,v'])∧OwR w' w.heap.size v' xs∧Below w.heap.size w w'
theorem l4Own_any (st:Int) (v:Value) (xs:List Int) (w:World) (h:Rd w v xs) (hl:xs.length≤900000):
 Calls Tryz.prog 152 #[.agg #[.int .i64 st,v]] w (OwnRtP st xs w):=by
 obtain⟨NP,hNP⟩:∃NP,NP=OwnRtP st xs w:=⟨_,rfl⟩
 rw[←hNP]
 have HOW:=Lib.hid (fun w' (hb:Below w.heap.size w w')=>l1OwnE_any v xs w' (h.belowAll hb) hl)
 obtain⟨ax,cx,nx,HNX,rfl,-,-,-⟩:=h.opn
 have b1:=(Below.refl w.heap.size w).alloc (Nat.le_refl _) (.cells #[.int .i64 st,.slice ax nx cx] 82)
 have b2:=b1.alloc b1.size (.cells #[.int .i64 0,.slice none 0 0] 82)
 have HB2:=Lib.hid b2
 have HX1:=Lib.hid (show((w.alloc (.cells #[.int .i64 st,.slice ax nx cx] 82)).alloc (.cells #[.int .i64 0,.slice none 0 0] 82)).heap[w.heap.size]?= some (.cells #[.int .i64 st,.slice ax nx cx] 82 (0,0)) from(heap_alloc_old _ _ (by simp)).trans (heap_alloc_new w _))
 have HX2:=Lib.hid (show((w.alloc (.cells #[.int .i64 st,.slice ax nx cx] 82)).alloc (.cells #[.int .i64 0,.slice none 0 0] 82)).heap[w.heap.size+1]?= some (.cells #[.int .i64 0,.slice none 0 0] 82 (0,0)) from by have:=heap_alloc_new (w.alloc (.cells #[.int .i64 st,.slice ax nx cx] 82)) (.cells #[.int .i64 0,.slice none 0 0] 82);simpa using this)
 have HZ2:=Lib.hid (show((w.alloc (.cells #[.int .i64 st,.slice ax nx cx] 82)).alloc (.cells #[.int .i64 0,.slice none 0 0] 82)).heap.size=w.heap.size+2 by simp)
 clear b1 b2 h
 go_enter Tryz.func152,Tryz.ntmps152
 go_upto_region 1 with fail
 generalize (w.alloc (.cells #[.int .i64 st,.slice ax nx cx] 82)).alloc (.cells #[.int .i64 0,.slice none 0 0] 82)=w2 at *
 have hlt1:w.heap.size<w2.heap.size:=by have:=HZ2.out;omega
 have HS:=Lib.hid (fun(w':World) (hb:Below w2.heap.size w2 w')=>show w'.cell? ⟨w.heap.size,0,none⟩=some (.int .i64 st)∧w'.cell? ⟨w.heap.size,1,none⟩=some (.slice ax nx cx) from
  ⟨(hb.cell (p:=⟨w.heap.size,0,none⟩) hlt1).trans (blkc HX1.out rfl),(hb.cell (p:=⟨w.heap.size,1,none⟩) hlt1).trans (blkc HX1.out rfl)⟩)
 have HST:=Lib.hid (fun(w':World) (hb:Below w2.heap.size w2 w') (a b:Value)=>show((w'.setCell ⟨w.heap.size+1,0,none⟩ a).setCell ⟨w.heap.size+1,1,none⟩ b).cell? ⟨w.heap.size,0,none⟩=some (.int .i64 st)∧((w'.setCell ⟨w.heap.size+1,0,none⟩ a).setCell ⟨w.heap.size+1,1,none⟩ b).cell? ⟨w.heap.size,1,none⟩=some (.slice ax nx cx) from by
  obtain⟨h1,h2⟩:=HS.out w' hb
  refine⟨?_,?_⟩
  · rw[World.cell?_setCell_other _ _ _ _ (by simp),World.cell?_setCell_other _ _ _ _ (by simp)];exact h1
  · rw[World.cell?_setCell_other _ _ _ _ (by simp),World.cell?_setCell_other _ _ _ _ (by simp)];exact h2)
 have hb0:=(Below.refl w2.heap.size w2).drew
 have HO2:=Lib.hid (HOW.out w2.drew (HB2.out.trans (hb0.mono HB2.out.size)))
 go_region_held3 (fun w'=>w'.cell? ⟨w.heap.size,0,none⟩=some (.int .i64 st)∧w'.cell? ⟨w.heap.size,1,none⟩=some (.slice ax nx cx))
  (first | exact HS.out _ hb0 | exact HS.out _ B5 | exact HST.out _ B5 _ _)
  (first
    | (go_at_call 187;(with_reducible refine HO2.out.mono ?_);rintro e w5 ⟨v5,rfl,o5,b5⟩;(obtain⟨e5,f5,rfl⟩:=row_form0 o5);(have B5:Below w2.heap.size w2 w5:=hb0.trans (b5.mono hb0.size));(have x10:=kept_o' HX2.out B5);(have z0:=blkc x10 (show _=some (Value.int .i64 0) from rfl) (j:=0));(have z1:=blkc x10 (show _=some (Value.slice none 0 0) from rfl) (j:=1));(have f0:w5.frozen? ⟨w.heap.size+1,0,none⟩=false:=(by simp only[World.frozen?,x10];rfl));(have f1:w5.frozen? ⟨w.heap.size+1,1,none⟩=false:=(by simp only[World.frozen?,x10];rfl))))
 all_goals
  have HB5:=Lib.hid B5
  have HO5:=Lib.hid (show OwR w5 w2.heap.size _ xs from o5)
  clear b5 o5 B5
  go_wp2_with fail
  subst hNP
  have hz:=HZ2.out
  have hn:∀k,(Value.slice e5 xs.length f5).ownBlock=some k→k≠w.heap.size+1:=fun k hk=>by have:=(HO5.out.lt k hk).1;omega
  exact bodyPost_ret (v:= .agg #[.int .i64 st,.slice e5 xs.length f5]) (by simp[results,Tryz.results152,go_sem,z0,z1]) rfl ⟨_,rfl,(((HO5.out.oth hn).oth hn).base (by omega)),((HB2.out.trans (HB5.out.mono HB2.out.size)).setCell (p:=⟨w.heap.size+1,0,none⟩) (Nat.le_succ _) _).setCell (p:=⟨w.heap.size+1,1,none⟩) (Nat.le_succ _) _⟩
def CpP (x:Lgt) (w:World) (e:Ending) (w':World):Prop:=∃v',e= .returned (.agg #[.int .i64 x.id,.int .i64 x.st,v',.int .i64 x.fi,.int .i64 x.ct])∧OwR w' w.heap.size v' x.fb∧Below w.heap.size w w'
theorem l9Copy_any (x:Lgt) (v:Value) (w:World) (h:Rd w v x.fb) (hl:x.fb.length≤900000):
 Calls Tryz.prog 153 #[.agg #[.int .i64 x.id,.int .i64 x.st,v,.int .i64 x.fi,.int .i64 x.ct]] w (CpP x w):=by
 obtain⟨NP,hNP⟩:∃NP,NP=CpP x w:=⟨_,rfl⟩
 rw[←hNP]
 have HOW:=Lib.hid (fun w' (hb:Below w.heap.size w w')=>l4Own_any x.st v x.fb w' (h.belowAll hb) hl)
 obtain⟨ax,cx,nx,HNX,rfl,-,-,-⟩:=h.opn
 have b1:=(Below.refl w.heap.size w).alloc (Nat.le_refl _) (.cells #[.int .i64 x.id,.int .i64 x.st,.slice ax nx cx,.int .i64 x.fi,.int .i64 x.ct] 86)
 have b2:=b1.alloc b1.size (.cells #[.int .i64 0,.int .i64 0,.slice none 0 0,.int .i64 0,.int .i64 0] 86)
 have HB2:=Lib.hid b2
 have HX1:=Lib.hid (show((w.alloc (.cells #[.int .i64 x.id,.int .i64 x.st,.slice ax nx cx,.int .i64 x.fi,.int .i64 x.ct] 86)).alloc (.cells #[.int .i64 0,.int .i64 0,.slice none 0 0,.int .i64 0,.int .i64 0] 86)).heap[w.heap.size]?= some (.cells #[.int .i64 x.id,.int .i64 x.st,.slice ax nx cx,.int .i64 x.fi,.int .i64 x.ct] 86 (0,0)) from(heap_alloc_old _ _ (by simp)).trans (heap_alloc_new w _))
 have HX2:=Lib.hid (show((w.alloc (.cells #[.int .i64 x.id,.int .i64 x.st,.slice ax nx cx,.int .i64 x.fi,.int .i64 x.ct] 86)).alloc (.cells #[.int .i64 0,.int .i64 0,.slice none 0 0,.int .i64 0,.int .i64 0] 86)).heap[w.heap.size+1]?= some (.cells #[.int .i64 0,.int .i64 0,.slice none 0 0,.int .i64 0,.int .i64 0] 86 (0,0)) from by have:=heap_alloc_new (w.alloc (.cells #[.int .i64 x.id,.int .i64 x.st,.slice ax nx cx,.int .i64 x.fi,.int .i64 x.ct] 86)) (.cells #[.int .i64 0,.int .i64 0,.slice none 0 0,.int .i64 0,.int .i64 0] 86);simpa using this)
 have HZ2:=Lib.hid (show((w.alloc (.cells #[.int .i64 x.id,.int .i64 x.st,.slice ax nx cx,.int .i64 x.fi,.int .i64 x.ct] 86)).alloc (.cells #[.int .i64 0,.int .i64 0,.slice none 0 0,.int .i64 0,.int .i64 0] 86)).heap.size=w.heap.size+2 by simp)
 clear b1 b2 h
 go_enter Tryz.func153,Tryz.ntmps153
 go_upto_region 1 with fail
 generalize ((w.alloc (.cells #[.int .i64 x.id,.int .i64 x.st,.slice ax nx cx,.int .i64 x.fi,.int .i64 x.ct] 86)).alloc (.cells #[.int .i64 0,.int .i64 0,.slice none 0 0,.int .i64 0,.int .i64 0] 86))=w2 at *
 have hlt1:w.heap.size<w2.heap.size:=by have:=HZ2.out;omega
 have HS:=Lib.hid (fun(w':World) (hb:Below w2.heap.size w2 w')=>show w'.cell? ⟨w.heap.size,0,none⟩=some (.int .i64 x.id)∧w'.cell? ⟨w.heap.size,1,none⟩=some (.int .i64 x.st)∧w'.cell? ⟨w.heap.size,2,none⟩=some (.slice ax nx cx)∧w'.cell? ⟨w.heap.size,3,none⟩=some (.int .i64 x.fi)∧w'.cell? ⟨w.heap.size,4,none⟩=some (.int .i64 x.ct) from
  ⟨(hb.cell (p:=⟨w.heap.size,0,none⟩) hlt1).trans (blkc HX1.out rfl),(hb.cell (p:=⟨w.heap.size,1,none⟩) hlt1).trans (blkc HX1.out rfl),(hb.cell (p:=⟨w.heap.size,2,none⟩) hlt1).trans (blkc HX1.out rfl),(hb.cell (p:=⟨w.heap.size,3,none⟩) hlt1).trans (blkc HX1.out rfl),(hb.cell (p:=⟨w.heap.size,4,none⟩) hlt1).trans (blkc HX1.out rfl)⟩)
 have HST:=Lib.hid (fun(w':World) (hb:Below w2.heap.size w2 w') (a0 a1 a2 a3 a4:Value)=>show(((((w'.setCell ⟨w.heap.size+1,0,none⟩ a0).setCell ⟨w.heap.size+1,1,none⟩ a1).setCell ⟨w.heap.size+1,2,none⟩ a2).setCell ⟨w.heap.size+1,3,none⟩ a3).setCell ⟨w.heap.size+1,4,none⟩ a4).cell? ⟨w.heap.size,0,none⟩=some (.int .i64 x.id)∧(((((w'.setCell ⟨w.heap.size+1,0,none⟩ a0).setCell ⟨w.heap.size+1,1,none⟩ a1).setCell ⟨w.heap.size+1,2,none⟩ a2).setCell ⟨w.heap.size+1,3,none⟩ a3).setCell ⟨w.heap.size+1,4,none⟩ a4).cell? ⟨w.heap.size,1,none⟩=some (.int .i64 x.st)∧(((((w'.setCell ⟨w.heap.size+1,0,none⟩ a0).setCell ⟨w.heap.size+1,1,none⟩ a1).setCell ⟨w.heap.size+1,2,none⟩ a2).setCell ⟨w.heap.size+1,3,none⟩ a3).setCell ⟨w.heap.size+1,4,none⟩ a4).cell? ⟨w.heap.size,2,none⟩=some (.slice ax nx cx)∧(((((w'.setCell ⟨w.heap.size+1,0,none⟩ a0).setCell ⟨w.heap.size+1,1,none⟩ a1).setCell ⟨w.heap.size+1,2,none⟩ a2).setCell ⟨w.heap.size+1,3,none⟩ a3).setCell ⟨w.heap.size+1,4,none⟩ a4).cell? ⟨w.heap.size,3,none⟩=some (.int .i64 x.fi)∧(((((w'.setCell ⟨w.heap.size+1,0,none⟩ a0).setCell ⟨w.heap.size+1,1,none⟩ a1).setCell ⟨w.heap.size+1,2,none⟩ a2).setCell ⟨w.heap.size+1,3,none⟩ a3).setCell ⟨w.heap.size+1,4,none⟩ a4).cell? ⟨w.heap.size,4,none⟩=some (.int .i64 x.ct) from by
  obtain⟨h1,h2,h3,h4,h5⟩:=HS.out w' hb
  refine⟨?_,?_,?_,?_,?_⟩
  · rw[World.cell?_setCell_other _ _ _ _ (by simp),World.cell?_setCell_other _ _ _ _ (by simp),World.cell?_setCell_other _ _ _ _ (by simp),World.cell?_setCell_other _ _ _ _ (by simp),World.cell?_setCell_other _ _ _ _ (by simp)];exact h1
  · rw[World.cell?_setCell_other _ _ _ _ (by simp),World.cell?_setCell_other _ _ _ _ (by simp),World.cell?_setCell_other _ _ _ _ (by simp),World.cell?_setCell_other _ _ _ _ (by simp),World.cell?_setCell_other _ _ _ _ (by simp)];exact h2
  · rw[World.cell?_setCell_other _ _ _ _ (by simp),World.cell?_setCell_other _ _ _ _ (by simp),World.cell?_setCell_other _ _ _ _ (by simp),World.cell?_setCell_other _ _ _ _ (by simp),World.cell?_setCell_other _ _ _ _ (by simp)];exact h3
  · rw[World.cell?_setCell_other _ _ _ _ (by simp),World.cell?_setCell_other _ _ _ _ (by simp),World.cell?_setCell_other _ _ _ _ (by simp),World.cell?_setCell_other _ _ _ _ (by simp),World.cell?_setCell_other _ _ _ _ (by simp)];exact h4
  · rw[World.cell?_setCell_other _ _ _ _ (by simp),World.cell?_setCell_other _ _ _ _ (by simp),World.cell?_setCell_other _ _ _ _ (by simp),World.cell?_setCell_other _ _ _ _ (by simp),World.cell?_setCell_other _ _ _ _ (by simp)];exact h5)
 have hb0:=(Below.refl w2.heap.size w2).drew
 have HO2:=Lib.hid (HOW.out w2.drew (HB2.out.trans (hb0.mono HB2.out.size)))
 go_region_held3 (fun w'=>w'.cell? ⟨w.heap.size,0,none⟩=some (.int .i64 x.id)∧w'.cell? ⟨w.heap.size,1,none⟩=some (.int .i64 x.st)∧w'.cell? ⟨w.heap.size,2,none⟩=some (.slice ax nx cx)∧w'.cell? ⟨w.heap.size,3,none⟩=some (.int .i64 x.fi)∧w'.cell? ⟨w.heap.size,4,none⟩=some (.int .i64 x.ct))
  (first | exact HS.out _ hb0 | exact HS.out _ B5 | exact HST.out _ B5 _ _ _ _ _)
  (first
    | (go_at_call 152;(with_reducible refine HO2.out.mono ?_);rintro e w5 ⟨v5,rfl,o5,b5⟩;(obtain⟨e5,f5,rfl⟩:=row_form0 o5);(have B5:Below w2.heap.size w2 w5:=hb0.trans (b5.mono hb0.size));(have x10:=kept_o' HX2.out B5);(have z0:=blkc x10 (show _=some (Value.int .i64 0) from rfl) (j:=0));(have f0:w5.frozen? ⟨w.heap.size+1,0,none⟩=false:=(by simp only[World.frozen?,x10];rfl));(have z1:=blkc x10 (show _=some (Value.int .i64 0) from rfl) (j:=1));(have f1:w5.frozen? ⟨w.heap.size+1,1,none⟩=false:=(by simp only[World.frozen?,x10];rfl));(have z2:=blkc x10 (show _=some (Value.slice none 0 0) from rfl) (j:=2));(have f2:w5.frozen? ⟨w.heap.size+1,2,none⟩=false:=(by simp only[World.frozen?,x10];rfl));(have z3:=blkc x10 (show _=some (Value.int .i64 0) from rfl) (j:=3));(have f3:w5.frozen? ⟨w.heap.size+1,3,none⟩=false:=(by simp only[World.frozen?,x10];rfl));(have z4:=blkc x10 (show _=some (Value.int .i64 0) from rfl) (j:=4));(have f4:w5.frozen? ⟨w.heap.size+1,4,none⟩=false:=(by simp only[World.frozen?,x10];rfl))))
 all_goals
  have HB5:=Lib.hid B5
  have HO5:=Lib.hid (show OwR w5 w2.heap.size _ x.fb from o5)
  clear b5 o5 B5
  go_wp2_with fail
  subst hNP
  have hz:=HZ2.out
  have hn:∀k,(Value.slice e5 x.fb.length f5).ownBlock=some k→k≠w.heap.size+1:=fun k hk=>by have:=(HO5.out.lt k hk).1;omega
  exact bodyPost_ret (v:= .agg #[.int .i64 x.id,.int .i64 x.st,.slice e5 x.fb.length f5,.int .i64 x.fi,.int .i64 x.ct]) (by simp[results,Tryz.results153,go_sem,z0,z1,z2,z3,z4]) rfl ⟨_,rfl,((((((HO5.out.oth hn).oth hn).oth hn).oth hn).oth hn).base (by omega)),((((((HB2.out.trans (HB5.out.mono HB2.out.size)).setCell (p:=⟨w.heap.size+1,0,none⟩) (Nat.le_succ _) _).setCell (p:=⟨w.heap.size+1,1,none⟩) (Nat.le_succ _) _).setCell (p:=⟨w.heap.size+1,2,none⟩) (Nat.le_succ _) _).setCell (p:=⟨w.heap.size+1,3,none⟩) (Nat.le_succ _) _).setCell (p:=⟨w.heap.size+1,4,none⟩) (Nat.le_succ _) _)⟩
theorem slcL_head (a:Option Addr) (m c k:Nat) (hk:k≤m) (hm:m≤c) (hc:c≤9223372036854775807) (ha:∀x,a=some x→x.spot=none) (w:World):
 (Instr.sliceAt 73 (.slice a m c) none (some (.int .i64 (k:Int))) none).run Tryz.prog w= .ok (.slice a k c) w:=by
 have h1:(0:Int)≤(k:Int):=by omega
 have h2:(k:Int)≤(c:Int):=by omega
 have h3:¬(c:Int)<(k:Int):=by omega
 have h4:¬c<k:=by omega
 have h5:k≤c:=by omega
 go_simp
def slcT (a:Option Addr) (c k s:Nat):Option Addr:=if c=k then a else a.map (·.add (k*s))
theorem slcL_tail (a:Option Addr) (m c k:Nat) (hk:k≤m) (hm:m≤c) (hc:c≤9223372036854775807) (w:World):
 (Instr.sliceAt 73 (.slice a m c) (some (.int .i64 (k:Int))) none none).run Tryz.prog w= .ok (.slice (slcT a c k 5) (m-k) (c-k)) w:=by
 have h1:(0:Int)≤(k:Int):=by omega
 have h2:(k:Int)≤(m:Int):=by omega
 have h3:¬(m:Int)<(k:Int):=by omega
 have h4:¬m<k:=by omega
 have h5:k≤c:=by omega
 have h6:(m:Int)≤(c:Int):=by omega
 unfold slcT
 go_simp
theorem yields_slc {P:Program} {ρ:Operand→Value} {o:Oper} {t:TypeId} {x:Operand} {lo hi:Option Operand} {v:Value} {w:World} (ho:o.op= .slice t x lo hi none) (h:(Instr.sliceAt t (ρ x) (lo.map ρ) (hi.map ρ) none).run P w= .ok v w):(execOp ρ o).run P w= .ok (.value v) w:=by
 unfold execOp
 simp only[ho]
 simp only[Option.map_none]
 simp[h,go_sem]
theorem run_copyK {P:Program} (w:World) (dT sT ty elem:TypeId) (g o dLen dCap:Nat) (a:Addr) (sLen sCap:Nat) (cur:Array Value) (t:TypeId) (cs:List Value) (k:Nat)
 (hu:P.underlying dT=some (.slice elem)) (hs:(P.info? elem).map (·.size)=some k)
 (hg:w.heap[g]?= some (.cells cur t (0,0))) (hn:cs.length=Nat.min sLen dLen*k)
 (hsrc:∀j v,cs[j]?= some v→w.cell? (a.add j)=some v) (hfit:o+cs.length≤cur.size) (h1:∀v∈cs,v.oneCell'=true):
 (Builtin.copy_ #[dT,sT] ty #[.slice (some ⟨g,o,none⟩) dLen dCap,.slice (some a) sLen sCap]).run P w =
   .ok (goInt (Nat.min sLen dLen)) (w.setRow g (cur.toList.take o++cs++cur.toList.drop (o+cs.length)).toArray):=by
 have hl:=run_loadCells_list (P:=P) w a cs hsrc
 have hst:=run_storeCells_at P g o t cs 0 cur w hg (by simpa using hfit) h1
 cases hq:P.info? elem with
 | none=>simp[hq] at hs
 | some i=>
   have hi:i.size=k:=by simpa[hq] using hs
   simp[Builtin.copy_,run_underlying hu,Builtin.lenOf,Builtin.firstCells,sizeOf,typeInfo,hq,hi,←hn,hl,hst]
theorem info5:(Tryz.prog.info? 86).map (·.size)=some 5:=by kernel_rfl
theorem Tryz.infoLgtI:(Tryz.prog.info? 86).map (fun i=>(i.zero,i.size,i.bytes))=some (some (.agg #[.int .i64 0,.int .i64 0,.slice none 0 0,.int .i64 0,.int .i64 0]),5,56):=by kernel_rfl
def insC (us news:List Value) (i:Nat):List Value:=us.take (i*5)++(news++us.drop (i*5))
def InsQ (w:World) (base n:Nat) (v:Value) (us news:List Value) (i:Nat) (e:Ending) (w':World):Prop:=∃v',e= .returned v'∧w'.ownsRow base 86 5 v' (n+1) (insC us news i)∧w.grownBy w' v.ownBlock∧(v'.ownBlock=v.ownBlock∨ ∃g,v'.ownBlock=some g∧w.heap.size≤g)
theorem insertEnd_any (w:World) (base n vb:Nat) (v:Value) (us news:List Value) (h:w.ownsRow base 86 5 v n us) (hb:base≤w.heap.size) (hn:n≤1000) (hnl:news.length=5) (hc:∀j u,news[j]?= some u→w.cell? ⟨vb,0+j,none⟩=some u) (h1:∀u∈news,u.oneCell'=true):
 Calls Tryz.prog 161 #[v,.int .i64 n,.slice (some ⟨vb,0,none⟩) 1 1] w (InsQ w base n v us news n):=by
 obtain⟨NP,hNP⟩:∃NP,NP=InsQ w base n v us news n:=⟨_,rfl⟩
 rw[←hNP]
 have HC:=Lib.hid (show∀ad:Addr,(some ⟨vb,0,none⟩:Option Addr)=some ad→ ∀j u,news[j]?= some u→w.cell? (ad.add j)=some u from fun ad e j u hu=>by cases e;rw[addr_add];exact hc j u hu)
 have hl:us.length=n*5:=h.1
 have HE:=Lib.hid (show us++news=insC us news n by unfold insC;rw[List.take_of_length_le (Nat.le_of_eq hl),List.drop_eq_nil_of_le (Nat.le_of_eq hl),List.append_nil])
 have HNP:=Lib.hid hNP
 have HR:=Lib.hid h
 have HO:=Lib.hid h1
 clear hc hl hNP h1
 rcases h.2 with ⟨rfl,rfl⟩ | ⟨g,c,cur,rfl,q1,q2,q3,q4,q5⟩
 · clear h
   go_enter Tryz.func161,Tryz.ntmps161
   go_wp2_with (at_builtin;refine wpList_catG rfl (.tmp 23) (.tmp 24) 73 86 rfl Tryz.underlying73 (.agg #[.int .i64 0,.int .i64 0,.slice none 0 0,.int .i64 0,.int .i64 0]) 5 56 Tryz.infoLgtI rfl (by decide) base (.slice none 0 0) 0 us (by rfl) HR.out (some ⟨vb,0,none⟩) 1 1 news (by rfl) (by rw[hnl]) (fun e=>by cases e) HC.out HO.out (by unfold maxLen;omega) (by omega) hb ?_;intro v9 w9 o9 g9 l9;have O9:=Lib.hid o9;have G9:=Lib.hid g9;have L9:=Lib.hid l9;obtain⟨a9,c9,rfl⟩:=rowf o9;clear o9 g9 l9)
   rw[HNP.out]
   exact⟨_,rfl,by rw[←HE.out];exact O9.out,G9.out,L9.out.imp id fun e=>⟨_,e,Nat.le_refl _⟩⟩
 · clear h q2 q5
   have q4':c≤9223372036854775807:=by unfold maxLen at q4;omega
   have q3I:(n:Int)≤(c:Int):=by omega
   have hn0:(0:Int)≤(n:Int):=by omega
   clear q4
   go_enter Tryz.func161,Tryz.ntmps161
   go_wp2_with (at_builtin;refine wpList_catG rfl (.tmp 23) (.tmp 24) 73 86 rfl Tryz.underlying73 (.agg #[.int .i64 0,.int .i64 0,.slice none 0 0,.int .i64 0,.int .i64 0]) 5 56 Tryz.infoLgtI rfl (by decide) base (.slice (some ⟨g,0,none⟩) n c) n us (by rfl) HR.out (some ⟨vb,0,none⟩) 1 1 news (by rfl) (by rw[hnl]) (fun e=>by cases e) HC.out HO.out (by unfold maxLen;omega) (by omega) hb ?_;intro v9 w9 o9 g9 l9;have O9:=Lib.hid o9;have G9:=Lib.hid g9;have L9:=Lib.hid l9;obtain⟨a9,c9,rfl⟩:=rowf o9;clear o9 g9 l9)
   all_goals
    rw[HNP.out]
    exact⟨_,rfl,by rw[←HE.out];exact O9.out,G9.out,L9.out.imp id fun e=>⟨_,e,Nat.le_refl _⟩⟩
theorem ins_cells {cur us news:List Value} {n i c:Nat} (hu:cur.take (n*5)=us) (hc:cur.length=c*5) (hul:us.length=n*5) (hnl:news.length=5) (hi:i<n) (hnc:n+1≤c):
 ((cur.take ((i+1)*5)++us.drop (i*5)++cur.drop ((i+1)*5+(us.drop (i*5)).length)).take (i*5)++news++(cur.take ((i+1)*5)++us.drop (i*5)++cur.drop ((i+1)*5+(us.drop (i*5)).length)).drop (i*5+news.length)).take ((n+1)*5)=insC us news i∧
 (cur.take ((i+1)*5)++us.drop (i*5)++cur.drop ((i+1)*5+(us.drop (i*5)).length)).length=c*5:=by
 have hl1:(cur.take ((i+1)*5)).length=(i+1)*5:=by rw[List.length_take];omega
 have hl2:(us.drop (i*5)).length=(n-i)*5:=by rw[List.length_drop];omega
 refine⟨?_,by rw[List.length_append,List.length_append,hl1,hl2,List.length_drop];omega⟩
 have e1:(cur.take ((i+1)*5)++us.drop (i*5)++cur.drop ((i+1)*5+(us.drop (i*5)).length)).take (i*5)=us.take (i*5):=by
  rw[List.append_assoc,List.take_append_of_le_length (by omega),List.take_take,Nat.min_eq_left (by omega),←hu,List.take_take,Nat.min_eq_left (by omega)]
 have e2:(cur.take ((i+1)*5)++us.drop (i*5)++cur.drop ((i+1)*5+(us.drop (i*5)).length)).drop (i*5+news.length)=us.drop (i*5)++cur.drop ((i+1)*5+(us.drop (i*5)).length):=by
  rw[List.append_assoc]
  exact List.drop_left' (by rw[hl1,hnl];omega)
 rw[e1,e2]
 have e3:us.take (i*5)++news++(us.drop (i*5)++cur.drop ((i+1)*5+(us.drop (i*5)).length))=insC us news i++cur.drop ((i+1)*5+(us.drop (i*5)).length):=by unfold insC;simp
 rw[e3]
 refine List.take_left' ?_
 unfold insC
 rw[List.length_append,List.length_append,List.length_take,hl2,hnl];omega
theorem step_copyI {P:Program} {ops:Array Oper} {o:Oper} {a:Act} {w:World} {K:Act→World→Prop} {Q:Exit→Act→World→Prop} {E:Prop}
 (hg:o.guard=none) (d x:Operand) (dT sT:TypeId) (hop:o.op=Op.call {callee:=Callee.builtin Builtin.copy,args:=#[d,x],argTypes:=#[dT,sT]})
 (v u:Value) (hd:a.eval d=v) (hx:a.eval x=u) {v':Value} {w':World} (hr:(Builtin.copy_ #[dT,sT] o.type #[v,u]).run P w= .ok v' w') (hK:K (a.put o.dst v') w'):
 if Region.wanted o (yielded ops a.tmps)=true then Oper.wp P o a w K Q else E:=step_copy_runI hg d x dT sT hop v u hd hx hr hK
theorem insertShift_any (w:World) (base n c i g vb:Nat) (us news:List Value) (cur:Array Value) (hb:base≤g) (hg:w.heap[g]?= some (.cells cur 86 (0,0))) (hcs:cur.size=c*5) (hus:cur.toList.take (n*5)=us) (hul:us.length=n*5) (hi:i<n) (hnc:n+1≤c) (hc63:c≤maxLen) (hn:n≤1000)
 (hnl:news.length=5) (hv:w.heap[vb]?= some (.cells news.toArray 86 (0,0))) (hvb:vb≠g) (h1:∀u∈news,u.oneCell'=true) (h1u:∀u∈us,u.oneCell'=true):
 Calls Tryz.prog 161 #[.slice (some ⟨g,0,none⟩) n c,.int .i64 i,.slice (some ⟨vb,0,none⟩) 1 1] w (InsQ w base n (.slice (some ⟨g,0,none⟩) n c) us news i):=by
 obtain⟨NP,hNP⟩:∃NP,NP=InsQ w base n (.slice (some ⟨g,0,none⟩) n c) us news i:=⟨_,rfl⟩
 rw[←hNP]
 unfold maxLen at hc63
 have hov:∀lb cb,(callFunc 198 #[.slice (some ⟨vb,0,none⟩) 1 1,.slice (some ⟨g,(i+1)*5,none⟩) lb cb]).run Tryz.prog w= .ok (.value (.bool false)) w:=fun lb cb=>by
  rw[run_callFunc_extern Tryz.func198 (by kernel_rfl) (by kernel_rfl) (by kernel_rfl) (e:=Extern.SlicesOverlaps.overlaps #[73,73] #[4]) (by kernel_rfl),
   Lib.run_overlaps_apart w 73 4 86 Tryz.underlying73 5 Tryz.sizeOf86 ⟨vb,0,none⟩ ⟨g,(i+1)*5,none⟩ 1 1 lb cb hvb 86 86 news.toArray.size cur.size (by simp[World.shape?,hv]) (by simp[World.shape?,hg]) (by omega) (by simp only[World.frozen?,hv];rfl) (by simp only[World.frozen?,hv];rfl)]
  rfl
 obtain⟨hX,hXl⟩:=ins_cells (cur:=cur.toList) hus (by simpa using hcs) hul hnl hi hnc
 have hdl:(us.drop (i*5)).length=(n-i)*5:=by rw[List.length_drop];omega
 have hcell:∀j u,us[j]?= some u→w.cell? ⟨g,j,none⟩=some u:=fun j u hj=>by
  rw[cell_of_row _ _ _ _ _ _ hg,←Array.getElem?_toList]
  rw[←hus] at hj
  have hjl:=(List.getElem?_eq_some_iff.1 hj).1
  rw[List.length_take] at hjl
  rwa [List.getElem?_take_of_lt (by omega)] at hj
 have hcp1:∀ty dc sc,(Builtin.copy_ #[73,73] ty #[.slice (some ⟨g,(i+1)*5,none⟩) (n-i) dc,.slice (some ⟨g,i*5,none⟩) (n+1-i) sc]).run Tryz.prog w.drew= .ok (goInt ((n-i:Nat):Int)) (w.drew.setRow g (cur.toList.take ((i+1)*5)++us.drop (i*5)++cur.toList.drop ((i+1)*5+(us.drop (i*5)).length)).toArray):=fun ty dc sc=>by
  have hmin:Nat.min (n+1-i) (n-i)=n-i:=by simp only[Nat.min_def];split <;> omega
  have:=run_copyK (P:=Tryz.prog) w.drew 73 73 ty 86 g ((i+1)*5) (n-i) dc ⟨g,i*5,none⟩ (n+1-i) sc cur 86 (us.drop (i*5)) 5 Tryz.underlying73 info5 hg (by rw[hmin,hdl])
   (fun j v hj=>by rw[addr_add];rw[List.getElem?_drop] at hj;exact hcell _ v hj) (by rw[hdl,hcs];omega) (fun v hv=>h1u v (List.mem_of_mem_drop hv))
  rw[hmin] at this
  exact this
 obtain⟨X1,hX1⟩:∃X1,X1=(cur.toList.take ((i+1)*5)++us.drop (i*5)++cur.toList.drop ((i+1)*5+(us.drop (i*5)).length)):=⟨_,rfl⟩
 rw[←hX1] at hX hXl hcp1
 obtain⟨X2,hX2⟩:∃X2,X2=X1.take (i*5)++news++X1.drop (i*5+news.length):=⟨_,rfl⟩
 rw[←hX2] at hX
 have hX2l:X2.length=c*5:=by rw[hX2];simp only[List.length_append,List.length_take,List.length_drop];omega
 have hg1:(w.drew.setRow g X1.toArray).heap[g]?= some (.cells X1.toArray 86 (0,0)):=setRow_heap w.drew g cur X1.toArray 86 (0,0) hg
 have hcp2:∀(W:World),W.heap=(w.drew.setRow g X1.toArray).heap→ ∀ty dc,(Builtin.copy_ #[73,73] ty #[.slice (some ⟨g,i*5,none⟩) (n+1-i) dc,.slice (some ⟨vb,0,none⟩) 1 1]).run Tryz.prog W= .ok (goInt 1) (W.setRow g X2.toArray):=fun W hW ty dc=>by
  have hmin:Nat.min 1 (n+1-i)=1:=by simp only[Nat.min_def];split <;> omega
  have:=run_copyK (P:=Tryz.prog) W 73 73 ty 86 g (i*5) (n+1-i) dc ⟨vb,0,none⟩ 1 1 X1.toArray 86 news 5 Tryz.underlying73 info5 (by rw[hW];exact hg1) (by rw[hmin,hnl])
   (fun j v hj=>by
     rw[addr_add]
     have hW2:W.heap[vb]?= some (.cells news.toArray 86 (0,0)):=by
      rw[hW,setRow_other w.drew g vb X1.toArray hvb];exact hv
     rw[cell_of_row _ _ _ _ _ _ hW2,Nat.zero_add]
     simpa using hj) (by simp;omega) h1
  rw[hmin] at this
  rw[this,hX2];rfl
 have hpost:∀W:World,W.heap=(w.drew.setRow g X1.toArray).heap→W.os=w.os→W.tape=w.tape→W.output=w.output→InsQ w base n (.slice (some ⟨g,0,none⟩) n c) us news i (.returned (.slice (some ⟨g,0,none⟩) (n+1) c)) (W.setRow g X2.toArray):=fun W hW h2 h3 h4=>by
  have hgW:W.heap[g]?= some (.cells X1.toArray 86 (0,0)):=by rw[hW];exact hg1
  refine⟨_,rfl,⟨?_,.inr ⟨g,c,X2.toArray,rfl,hb,setRow_heap W g _ X2.toArray 86 (0,0) hgW,hnc,by unfold maxLen;omega,by simpa using hX2l,by simpa using hX⟩⟩,⟨h2,h3,h4,?_,fun k hk hne=> ?_⟩,.inl rfl⟩
  · rw[←hX,List.length_take];omega
  · show _≤(W.setRow g X2.toArray).heap.size
    have e1:(W.setRow g X2.toArray).heap.size=W.heap.size:=by simp[World.setRow]
    rw[e1,hW]
    simp[World.setRow]
  · have hkg:k≠g:=fun e=>hne (by rw[e];rfl)
    rw[setRow_other W g k X2.toArray hkg,hW,setRow_other w.drew g k X1.toArray hkg];rfl
 have HPO:=Lib.hid hpost
 have HNP:=Lib.hid hNP
 have hz2:¬((i:Int)=(n:Int)):=by omega
 have hw1:IntKind.i64.wrap ((i:Int)+1)=(i:Int)+1:=by rw[IntKind.wrap_i64];omega
 have hb1:(0:Int)≤(i:Int)+1:=by omega
 have hin:i≤n:=by omega
 have htn:((i:Int)+1).toNat=i+1:=by omega
 have hb2:¬(c=i+1):=by omega
 have hb3:(i:Int)≤(n:Int)+1:=by omega
 have hb4:¬(c=i):=by omega
 have mixed:Tryz.prog.follows .mixedOrders=true:=by kernel_rfl
 clear hX hXl hdl hcell hX1 hX2 hX2l hg1 hpost hNP hus hcs hg hv h1 h1u hul hvb hb
 go_enter Tryz.func161,Tryz.ntmps161
 go_wp2_with (simp only[hov])
 go_region_law_o (refine step_copyI rfl _ _ 73 73 rfl _ _ (by simp[Act.eval,Act.put]) (by simp[Act.eval,Act.put]) (hcp1 _ _ _) ?_)
 all_goals
  go_wp2_with (at_builtin;refine wpList_copy_runI _ rfl _ _ 73 73 rfl _ _ rfl rfl (hcp2 _ rfl _ _) ?_)
  rw[HNP.out]
  exact HPO.out _ rfl rfl rfl rfl
theorem grow_cells {row us news Z:List Value} {n i G:Nat} (hr:row=us.take (i*5)++Z) (hz:Z.length=(G-i)*5) (hul:us.length=n*5) (hnl:news.length=5) (hi:i<n) (hG:n+1≤G):
 (row.take (i*5)++news++row.drop (i*5+news.length)).length=G*5∧
 (((row.take (i*5)++news++row.drop (i*5+news.length)).take ((i+1)*5)++us.drop (i*5)++(row.take (i*5)++news++row.drop (i*5+news.length)).drop ((i+1)*5+(us.drop (i*5)).length)).take ((n+1)*5)=insC us news i∧
  ((row.take (i*5)++news++row.drop (i*5+news.length)).take ((i+1)*5)++us.drop (i*5)++(row.take (i*5)++news++row.drop (i*5+news.length)).drop ((i+1)*5+(us.drop (i*5)).length)).length=G*5):=by
 have hl1:(us.take (i*5)).length=i*5:=by rw[List.length_take];omega
 have hl2:(us.drop (i*5)).length=(n-i)*5:=by rw[List.length_drop];omega
 have hrl:row.length=G*5:=by rw[hr,List.length_append,hl1,hz];omega
 have e0:row.take (i*5)=us.take (i*5):=by rw[hr];exact List.take_left' hl1
 have hx:(row.take (i*5)++news++row.drop (i*5+news.length)).length=G*5:=by
  rw[List.length_append,List.length_append,e0,hl1,List.length_drop,hnl,hrl];omega
 have e1:(row.take (i*5)++news++row.drop (i*5+news.length)).take ((i+1)*5)=us.take (i*5)++news:=by
  rw[e0];exact List.take_left' (by rw[List.length_append,hl1,hnl];omega)
 refine⟨hx,?_,?_⟩
 · rw[e1]
   have e3:∀R:List Value,us.take (i*5)++news++us.drop (i*5)++R=insC us news i++R:=fun R=>by unfold insC;simp
   rw[e3]
   refine List.take_left' ?_
   unfold insC
   rw[List.length_append,List.length_append,hl1,hl2,hnl];omega
 · rw[e1]
   generalize (row.take (i*5)++news++row.drop (i*5+news.length))=X at *
   simp only[List.length_append,List.length_drop,hl1,hnl]
   omega
theorem insertGrow_any (w:World) (base n c i g vb:Nat) (us news:List Value) (cur:Array Value) (hbs:base≤w.heap.size) (hg:w.heap[g]?= some (.cells cur 86 (0,0))) (hcs:cur.size=c*5) (hus:cur.toList.take (n*5)=us) (hul:us.length=n*5) (hi:i<n) (hnc:n≤c) (hroom:c<n+1) (hn:n≤1000)
 (hnl:news.length=5) (hv:w.heap[vb]?= some (.cells news.toArray 86 (0,0))) (h1:∀u∈news,u.oneCell'=true) (h1u:∀u∈us,u.oneCell'=true):
 Calls Tryz.prog 161 #[.slice (some ⟨g,0,none⟩) n c,.int .i64 i,.slice (some ⟨vb,0,none⟩) 1 1] w (InsQ w base n (.slice (some ⟨g,0,none⟩) n c) us news i):=by
 obtain⟨NP,hNP⟩:∃NP,NP=InsQ w base n (.slice (some ⟨g,0,none⟩) n c) us news i:=⟨_,rfl⟩
 rw[←hNP]
 obtain⟨i0,hi0,hz0,hzs,hzb⟩:=info_parts Tryz.infoLgtI
 have hgl:g<w.heap.size:=(Array.getElem?_eq_some_iff.1 hg).1
 have hvl:vb<w.heap.size:=(Array.getElem?_eq_some_iff.1 hv).1
 have hcell:∀j u,us[j]?= some u→w.cell? ⟨g,j,none⟩=some u:=fun j u hj=>by
  rw[cell_of_row _ _ _ _ _ _ hg,←Array.getElem?_toList]
  rw[←hus] at hj
  have hjl:=(List.getElem?_eq_some_iff.1 hj).1
  rw[List.length_take] at hjl
  rwa [List.getElem?_take_of_lt (by omega)] at hj
 have hold:(Builtin.firstCells i0.size i (.slice (some ⟨g,0,none⟩) i c)).run Tryz.prog w.drew= .ok (us.take (i*5)).toArray w.drew:=by
  rw[hzs]
  exact run_firstCells_some w.drew 5 i ⟨g,0,none⟩ i c (us.take (i*5)) (by rw[List.length_take];omega) (fun j v hj=>by
   rw[addr_add,Nat.zero_add]
   rw[List.getElem?_take] at hj
   split at hj
   · exact hcell j v hj
   · cases hj)
 have hkk:(n:Int)+1-(i:Int)=((n+1-i:Nat):Int):=by omega
 have hik:i+(n+1-i)=n+1:=by omega
 have hrz:∀ty,(Builtin.append_ #[73,3] ty #[.slice (some ⟨g,0,none⟩) i c,.int .i64 ((n:Int)+1-(i:Int))]).run Tryz.prog w =
  .ok (.slice (some ⟨w.heap.size,0,none⟩) (n+1) (grownCap w (n+1) c 86)) (w.drew.alloc (.cells ((us.take (i*5)).toArray++Builtin.zeroCells (Value.agg #[.int .i64 0,.int .i64 0,.slice none 0 0,.int .i64 0,.int .i64 0]).cells (n+1-i)++Builtin.zeroCells (Value.agg #[.int .i64 0,.int .i64 0,.slice none 0 0,.int .i64 0,.int .i64 0]).cells (grownCap w (n+1) c 86-(n+1))) 86)):=fun ty=>by
  have h:=Lib.run_append_grow_zeros w 73 3 ty 86 i0 _ .i64 .i64 Tryz.underlying73 Tryz.underlying3 hi0 hz0 (some ⟨g,0,none⟩) i c (us.take (i*5)) hold (n+1-i) (by omega) (by omega) (by omega) (by omega) (by rw[hzb];omega) (by rw[hzb,hik];exact growslice_fits hroom (by omega))
  rw[hik] at h
  rw[hkk]
  exact h
 obtain⟨G,hG⟩:∃G,G=grownCap w (n+1) c 86:=⟨_,rfl⟩
 have hGn:n+1≤G:=by rw[hG];exact grownCap_ge w _ _ _
 have hG63:G≤9223372036854775807:=by
  have:=grownCap_le_maxLen w (n+1) c 86 (by unfold maxLen;omega)
  rw[←hG] at this
  unfold maxLen at this
  omega
 obtain⟨Z,hZ⟩:∃Z:Array Value,Z=Builtin.zeroCells (Value.agg #[.int .i64 0,.int .i64 0,.slice none 0 0,.int .i64 0,.int .i64 0]).cells (n+1-i)++Builtin.zeroCells (Value.agg #[.int .i64 0,.int .i64 0,.slice none 0 0,.int .i64 0,.int .i64 0]).cells (G-(n+1)):=⟨_,rfl⟩
 rw[←hG] at hrz
 simp only[Array.append_assoc] at hrz
 rw[←hZ] at hrz
 have hZl:Z.toList.length=(G-i)*5:=by
  rw[hZ]
  simp[Builtin.zeroCells,Value.cells]
  omega
 obtain⟨row,hrow⟩:∃row:List Value,row=us.take (i*5)++Z.toList:=⟨_,rfl⟩
 have hra:(us.take (i*5)).toArray++Z=row.toArray:=by rw[hrow];apply Array.ext';simp
 rw[hra] at hrz
 obtain⟨hX1l,hX,hX2l⟩:=grow_cells hrow hZl hul hnl hi hGn
 have hdl:(us.drop (i*5)).length=(n-i)*5:=by rw[List.length_drop];omega
 have hrl:row.length=G*5:=by rw[hrow,List.length_append,List.length_take,hZl];omega
 obtain⟨X1,hX1⟩:∃X1,X1=row.take (i*5)++news++row.drop (i*5+news.length):=⟨_,rfl⟩
 rw[←hX1] at hX1l hX hX2l
 obtain⟨X2,hX2⟩:∃X2,X2=X1.take ((i+1)*5)++us.drop (i*5)++X1.drop ((i+1)*5+(us.drop (i*5)).length):=⟨_,rfl⟩
 rw[←hX2] at hX hX2l
 obtain⟨N,hN⟩:∃N,N=w.heap.size:=⟨_,rfl⟩
 obtain⟨W1,hW1⟩:∃W1,W1=w.drew.alloc (.cells row.toArray 86):=⟨_,rfl⟩
 rw[←hW1] at hrz
 have hW1n:W1.heap[N]?= some (.cells row.toArray 86 (0,0)):=by rw[hW1,hN];exact heap_alloc_new w.drew _
 have hW1o:∀k,k<N→W1.heap[k]?= w.heap[k]?:=fun k hk=>by rw[hW1];exact heap_alloc_old w.drew _ (by show k<w.heap.size;omega)
 have hW1s:W1.heap.size=N+1:=by rw[hW1,hN];simp
 rw[←hN] at hrz
 have hg1:(W1.setRow N X1.toArray).heap[N]?= some (.cells X1.toArray 86 (0,0)):=setRow_heap W1 N _ X1.toArray 86 (0,0) hW1n
 have hcpA:∀(W:World),W.heap=W1.heap→ ∀ty dc,(Builtin.copy_ #[73,73] ty #[.slice (some ⟨N,i*5,none⟩) (n+1-i) dc,.slice (some ⟨vb,0,none⟩) 1 1]).run Tryz.prog W= .ok (goInt 1) (W.setRow N X1.toArray):=fun W hW ty dc=>by
  have hmin:Nat.min 1 (n+1-i)=1:=by simp only[Nat.min_def];split <;> omega
  have:=run_copyK (P:=Tryz.prog) W 73 73 ty 86 N (i*5) (n+1-i) dc ⟨vb,0,none⟩ 1 1 row.toArray 86 news 5 Tryz.underlying73 info5 (by rw[hW];exact hW1n) (by rw[hmin,hnl])
   (fun j v hj=>by
     rw[addr_add]
     have hW2:W.heap[vb]?= some (.cells news.toArray 86 (0,0)):=by rw[hW,hW1o vb (by omega)];exact hv
     rw[cell_of_row _ _ _ _ _ _ hW2,Nat.zero_add]
     simpa using hj) (by simp;omega) h1
  rw[hmin] at this
  rw[this,hX1];rfl
 have hcpB:∀(W:World),W.heap=(W1.setRow N X1.toArray).heap→ ∀ty dc sc,(Builtin.copy_ #[73,73] ty #[.slice (some ⟨N,(i+1)*5,none⟩) (n-i) dc,.slice (some ⟨g,i*5,none⟩) (n-i) sc]).run Tryz.prog W= .ok (goInt ((n-i:Nat):Int)) (W.setRow N X2.toArray):=fun W hW ty dc sc=>by
  have hmin:Nat.min (n-i) (n-i)=n-i:=Nat.min_self _
  have hgW:W.heap[g]?= some (.cells cur 86 (0,0)):=by rw[hW,setRow_other W1 N g X1.toArray (by omega),hW1o g (by omega)];exact hg
  have:=run_copyK (P:=Tryz.prog) W 73 73 ty 86 N ((i+1)*5) (n-i) dc ⟨g,i*5,none⟩ (n-i) sc X1.toArray 86 (us.drop (i*5)) 5 Tryz.underlying73 info5 (by rw[hW];exact hg1) (by rw[hmin,hdl])
   (fun j v hj=>by
     rw[addr_add];rw[List.getElem?_drop] at hj
     have hc:=hcell _ v hj
     rw[cell_of_row _ _ _ _ _ _ hg] at hc
     rw[cell_of_row _ _ _ _ _ _ hgW];exact hc) (by simp;omega) (fun v hv=>h1u v (List.mem_of_mem_drop hv))
  rw[hmin] at this
  rw[this,hX2]
 have hpost:∀W:World,W.heap=(W1.setRow N X1.toArray).heap→W.os=w.os→W.tape=w.tape→W.output=w.output→InsQ w base n (.slice (some ⟨g,0,none⟩) n c) us news i (.returned (.slice (some ⟨N,0,none⟩) (n+1) G)) (W.setRow N X2.toArray):=fun W hW h2 h3 h4=>by
  have hgW:W.heap[N]?= some (.cells X1.toArray 86 (0,0)):=by rw[hW];exact hg1
  refine⟨_,rfl,⟨?_,.inr ⟨N,G,X2.toArray,rfl,by omega,setRow_heap W N _ X2.toArray 86 (0,0) hgW,hGn,by unfold maxLen;omega,by simpa using hX2l,by simpa using hX⟩⟩,⟨h2,h3,h4,?_,fun k hk hne=> ?_⟩,.inr ⟨N,rfl,by omega⟩⟩
  · rw[←hX,List.length_take];omega
  · show _≤(W.setRow N X2.toArray).heap.size
    have e1:(W.setRow N X2.toArray).heap.size=W.heap.size:=by simp[World.setRow]
    have e2:(W1.setRow N X1.toArray).heap.size=W1.heap.size:=by simp[World.setRow]
    rw[e1,hW,e2,hW1s];omega
  · rw[setRow_other W N k X2.toArray (by omega),hW,setRow_other W1 N k X1.toArray (by omega),hW1o k (by omega)]
 have HPO:=Lib.hid hpost
 have HNP:=Lib.hid hNP
 have hW1e:W1.os=w.os∧W1.tape=w.tape∧W1.output=w.output:=by rw[hW1];exact⟨rfl,rfl,rfl⟩
 have HW1E:=Lib.hid hW1e
 have hz2:¬((i:Int)=(n:Int)):=by omega
 have hz3:(c:Int)<(n:Int)+1:=by omega
 have hw1:IntKind.i64.wrap ((i:Int)+1)=(i:Int)+1:=by rw[IntKind.wrap_i64];omega
 have hb1:(0:Int)≤(i:Int)+1:=by omega
 have hin:i≤n:=by omega
 have htn:((i:Int)+1).toNat=i+1:=by omega
 have hb3:(i:Int)≤(n:Int):=by omega
 have hGi:¬(G=i):=by omega
 have hGim:¬(G=i+1):=by omega
 have hci:¬(c=i):=by omega
 have mixed:Tryz.prog.follows .mixedOrders=true:=by kernel_rfl
 clear hX1l hX hX2l hdl hrl hX1 hX2 hrow hZl hra hG hpost hNP hcell hold hkk hik hZ hus hul hcs hg hv h1 h1u hnl hbs hW1n hW1o hW1s hg1 hW1e hW1 hN hgl hvl hi0 hz0 hzs hzb
 go_enter Tryz.func161,Tryz.ntmps161
 go_wp2_with (first
  | (at_builtin;refine Lib.wpList_append_run _ rfl _ _ _ _ rfl _ _ rfl rfl _ _ (hrz _) ?_)
  | (at_builtin;refine wpList_copy_runI _ rfl _ _ 73 73 rfl _ _ rfl rfl (hcpA _ rfl _ _) ?_))
 have HDR:((W1.setRow N X1.toArray).drew).heap=(W1.setRow N X1.toArray).heap:=rfl
 go_region_law_o (refine step_copyI rfl _ _ 73 73 rfl (.slice (some ⟨N,(i+1)*5,none⟩) (n-i) (G-(i+1))) (.slice (some ⟨g,i*5,none⟩) (n-i) (c-i)) (by simp[Act.eval,Act.put]) (by simp[Act.eval,Act.put]) (hcpB _ HDR 3 (G-(i+1)) (c-i)) ?_)
 all_goals
  go_wp2
  rw[HNP.out]
  exact HPO.out _ rfl HW1E.out.1 HW1E.out.2.1 HW1E.out.2.2
theorem insertL_any (w:World) (base n i vb:Nat) (v:Value) (us news:List Value) (h:w.ownsRow base 86 5 v n us) (hb:base≤w.heap.size) (hn:n≤1000) (hi:i≤n) (hnl:news.length=5) (hv:w.heap[vb]?= some (.cells news.toArray 86 (0,0))) (hvb:∀g,v.ownBlock=some g→vb≠g) (h1:∀u∈news,u.oneCell'=true) (h1u:∀u∈us,u.oneCell'=true):
 Calls Tryz.prog 161 #[v,.int .i64 i,.slice (some ⟨vb,0,none⟩) 1 1] w (InsQ w base n v us news i):=by
 by_cases he:i=n
 · subst he
   exact insertEnd_any w base i vb v us news h hb hn hnl (fun j u hj=>by rw[cell_of_row _ _ _ _ _ _ hv,Nat.zero_add];simpa using hj) h1
 · rcases h.2 with ⟨rfl,rfl⟩ | ⟨g,c,cur,rfl,q1,q2,q3,q4,q5,q6⟩
   · omega
   · by_cases hr:n+1≤c
     · exact insertShift_any w base n c i g vb us news cur q1 q2 q5 q6 h.1 (by omega) hr q4 hn hnl hv (hvb g rfl) h1 h1u
     · exact insertGrow_any w base n c i g vb us news cur hb q2 q5 q6 h.1 (by omega) q3 (by omega) hn hnl hv h1 h1u
theorem seg_step {L vs:List Value} {v:Value} {o:Nat} (h:o+(vs.length+1)≤L.length):(L.set o v).take (o+1)++vs++(L.set o v).drop (o+1+vs.length)=L.take o++(v::vs)++L.drop (o+(vs.length+1)):=by
 have e1:(L.set o v).take (o+1)=L.take o++[v]:=by
  rw[List.take_add_one,List.getElem?_set_self (by omega),List.take_set,List.set_eq_of_length_le (by simp;omega)];rfl
 have e2:(L.set o v).drop (o+1+vs.length)=L.drop (o+(vs.length+1)):=by
  rw[List.drop_set,if_pos (by omega),show o+1+vs.length=o+(vs.length+1) by omega]
 rw[e1,e2];simp
theorem heap_setCells_row (g:Nat) (T:TypeId):∀(vs:List Value) (o:Nat) (cur:Array Value) (w:World),w.heap[g]?= some (.cells cur T (0,0))→o+vs.length≤cur.size→(w.setCells g o vs).heap[g]?= some (.cells (cur.toList.take o++vs++cur.toList.drop (o+vs.length)).toArray T (0,0))
 | [],o,cur,w,h,_=>by simpa[World.setCells] using h
 | v::vs,o,cur,w,h,hl=>by
   simp only[List.length_cons] at hl
   have h1:=heap_setCell_same w g o cur T v h
   have ih:=heap_setCells_row g T vs (o+1) (cur.setIfInBounds o v) (w.setCell ⟨g,o,none⟩ v) h1 (by simp;omega)
   rw[Array.toList_setIfInBounds] at ih
   rw[World.setCells,ih,List.length_cons,seg_step (by simp;omega)]
def delC (us:List Value) (i:Nat):List Value:=us.take (i*5)++us.drop ((i+1)*5)
def DelQ (w:World) (base n g c:Nat) (us:List Value) (i:Nat) (e:Ending) (w':World):Prop:=e= .returned (.slice (some ⟨g,0,none⟩) (n-1) c)∧w'.ownsRow base 86 5 (.slice (some ⟨g,0,none⟩) (n-1) c) (n-1) (delC us i)∧w.grownBy w' (some g)
theorem del_cells {cur us Z:List Value} {n i c:Nat} (hu:cur.take (n*5)=us) (hc:cur.length=c*5) (hul:us.length=n*5) (hz:Z.length=5) (hi:i<n) (hnc:n≤c):
 (cur.take (i*5)++us.drop ((i+1)*5)++cur.drop (i*5+(us.drop ((i+1)*5)).length)).length=c*5∧
 ((cur.take (i*5)++us.drop ((i+1)*5)++cur.drop (i*5+(us.drop ((i+1)*5)).length)).take ((n-1)*5)++Z++(cur.take (i*5)++us.drop ((i+1)*5)++cur.drop (i*5+(us.drop ((i+1)*5)).length)).drop ((n-1)*5+Z.length)).take ((n-1)*5)=delC us i∧
 ((cur.take (i*5)++us.drop ((i+1)*5)++cur.drop (i*5+(us.drop ((i+1)*5)).length)).take ((n-1)*5)++Z++(cur.take (i*5)++us.drop ((i+1)*5)++cur.drop (i*5+(us.drop ((i+1)*5)).length)).drop ((n-1)*5+Z.length)).length=c*5:=by
 have hl2:(us.drop ((i+1)*5)).length=(n-(i+1))*5:=by rw[List.length_drop];omega
 have e0:cur.take (i*5)=us.take (i*5):=by rw[←hu,List.take_take,Nat.min_eq_left (by omega)]
 have hl1:(us.take (i*5)).length=i*5:=by rw[List.length_take];omega
 have hx:(cur.take (i*5)++us.drop ((i+1)*5)++cur.drop (i*5+(us.drop ((i+1)*5)).length)).length=c*5:=by
  rw[List.length_append,List.length_append,e0,hl1,hl2,List.length_drop,hc];omega
 have e1:(cur.take (i*5)++us.drop ((i+1)*5)++cur.drop (i*5+(us.drop ((i+1)*5)).length)).take ((n-1)*5)=delC us i:=by
  rw[e0]
  refine List.take_left' ?_
  rw[List.length_append,hl1,hl2];omega
 have hd:(delC us i).length=(n-1)*5:=by unfold delC;rw[List.length_append,hl1,hl2];omega
 refine⟨hx,?_,?_⟩
 · rw[e1,List.append_assoc];exact List.take_left' hd
 · rw[e1]
   generalize (cur.take (i*5)++us.drop ((i+1)*5)++cur.drop (i*5+(us.drop ((i+1)*5)).length))=X at *
   simp only[List.length_append,List.length_drop,hd,hz]
   omega
theorem run_clear5 (w:World) (ty:TypeId) (b o c:Nat) (hc:∀j,j<5→(w.cell? ⟨b,o+j,none⟩).isSome=true) (hf:∀j,j<5→w.frozen? ⟨b,o+j,none⟩=false):
 (Builtin.clear_ #[73] ty #[.slice (some ⟨b,o,none⟩) 1 c]).run Tryz.prog w= .ok (.tuple #[]) (w.setCells b o [.int .i64 0,.int .i64 0,.slice none 0 0,.int .i64 0,.int .i64 0]):=by
 have hst:=run_storeCells_cells (P:=Tryz.prog) b o [.int .i64 0,.int .i64 0,.slice none 0 0,.int .i64 0,.int .i64 0] 0 w (by simpa using hc) (by simpa using hf) (by simp[Value.oneCell'])
 have hz:(Builtin.zeroCells (Value.agg #[.int .i64 0,.int .i64 0,.slice none 0 0,.int .i64 0,.int .i64 0]).cells 1).toList=[.int .i64 0,.int .i64 0,.slice none 0 0,.int .i64 0,.int .i64 0]:=by simp[Builtin.zeroCells,Value.cells,List.range,List.range.loop]
 have hv:=Tryz.zeroValue86
 simp[Builtin.clear_,run_underlying Tryz.underlying73,hv,hz,hst]
theorem deleteL_any (w:World) (base n c i g:Nat) (us:List Value) (cur:Array Value) (hb:base≤g) (hg:w.heap[g]?= some (.cells cur 86 (0,0))) (hcs:cur.size=c*5) (hus:cur.toList.take (n*5)=us) (hul:us.length=n*5) (hi:i<n) (hnc:n≤c) (hc63:c≤maxLen) (hn:n≤1000) (h1u:∀u∈us,u.oneCell'=true):
 Calls Tryz.prog 155 #[.slice (some ⟨g,0,none⟩) n c,.int .i64 i,.int .i64 ((i+1:Nat):Int)] w (DelQ w base n g c us i):=by
 obtain⟨NP,hNP⟩:∃NP,NP=DelQ w base n g c us i:=⟨_,rfl⟩
 rw[←hNP]
 have hc63':=hc63
 unfold maxLen at hc63
 obtain⟨i0,hi0,hz0,hzs,hzb⟩:=info_parts Tryz.infoLgtI
 obtain⟨hX1l,hX,hX2l⟩:=del_cells (cur:=cur.toList) (Z:=[.int .i64 0,.int .i64 0,.slice none 0 0,.int .i64 0,.int .i64 0]) hus (by simpa using hcs) hul rfl hi hnc
 have hcell:∀j u,us[j]?= some u→w.cell? ⟨g,j,none⟩=some u:=fun j u hj=>by
  rw[cell_of_row _ _ _ _ _ _ hg,←Array.getElem?_toList]
  rw[←hus] at hj
  have hjl:=(List.getElem?_eq_some_iff.1 hj).1
  rw[List.length_take] at hjl
  rwa [List.getElem?_take_of_lt (by omega)] at hj
 have hdl:(us.drop ((i+1)*5)).length=(n-(i+1))*5:=by rw[List.length_drop];omega
 obtain⟨news,hnews⟩:∃news,news=us.drop ((i+1)*5):=⟨_,rfl⟩
 rw[←hnews] at hX1l hX hX2l hdl
 obtain⟨X1,hX1⟩:∃X1,X1=cur.toList.take (i*5)++news++cur.toList.drop (i*5+news.length):=⟨_,rfl⟩
 rw[←hX1] at hX1l hX hX2l
 obtain⟨W1,hW1⟩:∃W1,W1=w.drew.setCells g (0+i*5) news:=⟨_,rfl⟩
 have hg1:W1.heap[g]?= some (.cells X1.toArray 86 (0,0)):=by
  rw[hW1,hX1,Nat.zero_add]
  exact heap_setCells_row g 86 news (i*5) cur w.drew hg (by rw[hdl,hcs];omega)
 have ho1:∀k,k<w.heap.size→k≠g→W1.heap[k]?= w.heap[k]?:=fun k hk hne=>by rw[hW1];exact World.heap_setCells_other w.drew g _ news hk hne
 have hs1:W1.heap.size=w.heap.size∧W1.os=w.os∧W1.tape=w.tape∧W1.output=w.output:=by
  have key:∀(vs:List Value) (o:Nat) (w:World),(w.setCells g o vs).heap.size=w.heap.size∧(w.setCells g o vs).os=w.os∧(w.setCells g o vs).tape=w.tape∧(w.setCells g o vs).output=w.output:=by
   intro vs
   induction vs with
   | nil=>intro o w;exact⟨rfl,rfl,rfl,rfl⟩
   | cons v vs ih=>
     intro o w
     obtain⟨a,b,c,d⟩:=ih (o+1) (w.setCell ⟨g,o,none⟩ v)
     rw[World.setCells]
     exact⟨a.trans (by simp),b,c,d⟩
  rw[hW1];exact key _ _ _
 have s1:Hid (news.length=(n-(i+1))*5):=hdl
 have s2:Hid (∀u∈news,u.oneCell'=true):=fun u hu=>by rw[hnews] at hu;exact h1u u (List.mem_of_mem_drop hu)
 have s3:Hid (∀t,t<news.length→(w.drew.cell? ⟨g,0+i*5+t,none⟩).isSome=true∧w.drew.frozen? ⟨g,0+i*5+t,none⟩=false):=fun t ht=>by
  rw[hdl] at ht
  rw[Nat.zero_add]
  have hg':w.drew.heap[g]?= some (.cells cur 86 (0,0)):=hg
  refine⟨?_,frozen_of_row _ _ _ _ _ hg'⟩
  rw[cell_of_row _ _ _ _ _ _ hg',Array.getElem?_eq_getElem (by omega)];rfl
 have hcl:∀ty cc,(Builtin.clear_ #[73] ty #[.slice (some ⟨g,(n-1)*5,none⟩) 1 cc]).run Tryz.prog W1= .ok (.tuple #[]) (W1.setCells g ((n-1)*5) [.int .i64 0,.int .i64 0,.slice none 0 0,.int .i64 0,.int .i64 0]):=fun ty cc=>
  run_clear5 W1 ty g ((n-1)*5) cc (fun j hj=>by rw[cell_of_row _ _ _ _ _ _ hg1];simp;omega) (fun j hj=>frozen_of_row _ _ _ _ _ hg1)
 have hpost:DelQ w base n g c us i (.returned (.slice (some ⟨g,0,none⟩) (n-1) c)) (W1.setCells g ((n-1)*5) [.int .i64 0,.int .i64 0,.slice none 0 0,.int .i64 0,.int .i64 0]):=by
  have h2:=heap_setCells_row g 86 [.int .i64 0,.int .i64 0,.slice none 0 0,.int .i64 0,.int .i64 0] ((n-1)*5) X1.toArray W1 hg1 (by simp;omega)
  refine⟨rfl,⟨?_,.inr ⟨g,c,_,rfl,hb,h2,by omega,hc63',by simpa using hX2l,by simpa using hX⟩⟩,⟨hs1.2.1,hs1.2.2.1,hs1.2.2.2,?_,fun k hk hne=> ?_⟩⟩
  · rw[←hX,List.length_take];omega
  · have:∀(vs:List Value) (o:Nat) (w:World),(w.setCells g o vs).heap.size=w.heap.size:=by
     intro vs
     induction vs with
     | nil=>intro o w;rfl
     | cons v vs ih=>intro o w;rw[World.setCells,ih];simp
    rw[this,hs1.1];exact Nat.le_refl _
  · have hkg:k≠g:=fun e=>hne (by rw[e])
    rw[World.heap_setCells_other W1 g _ _ (by omega) hkg];exact ho1 k hk hkg
 have HPO:=Lib.hid hpost
 have HW:=Lib.hid hW1
 have HNP:=Lib.hid hNP
 have hsrc:∃A:Addr,(if c=i+1 then(some ⟨g,0,none⟩:Option Addr) else some ⟨g,(i+1)*5,none⟩)=some A∧Hid (∀t u,news[t]?= some u→w.drew.cell? (A.add t)=some u):=by
  by_cases h:c=i+1
  · refine⟨⟨g,0,none⟩,by simp[h],fun t u hu=> ?_⟩
    have h0:news.length=0:=by rw[hdl];omega
    rw[List.length_eq_zero_iff.1 h0] at hu
    simp at hu
  · refine⟨⟨g,(i+1)*5,none⟩,by simp[h],fun t u hu=> ?_⟩
    rw[addr_add]
    rw[hnews,List.getElem?_drop] at hu
    exact hcell _ u hu
 obtain⟨A,hA,HSRC⟩:=hsrc
 obtain⟨j,hj⟩:∃j,j=i+1:=⟨_,rfl⟩
 rw[←hj] at hA s1 ⊢
 have hij:¬((i:Int)=(j:Int)):=by omega
 have hijb:((i:Int)==(j:Int))=false:=by rw[beq_eq_false_iff_ne];omega
 have hic:i≤c:=by omega
 have hjc:j≤c:=by omega
 have hjn:j≤n:=by omega
 have hle:i≤j:=by omega
 have HIJ:=Lib.hid (show i+(n-j)=n-1 by omega)
 have mixed:Tryz.prog.follows .mixedOrders=true:=by kernel_rfl
 clear hX1l hX hX2l hcell hdl hnews hX1 hW1 hg1 ho1 hs1 hpost hNP hus hul hcs hg h1u hb hzb hj
 go_enter Tryz.func155,Tryz.ntmps155
 go_wp2_with fail
 have hIJ:i+(n-j)=n-1:=HIJ.out
 have hn1:n-(n-1)=1:=by omega
 have hcn:¬(c=n-1):=by omega
 have hn1c:n-1≤c:=by omega
 have hn1n:n-1≤n:=by omega
 have hn1I:((n-1:Nat):Int)≤(n:Int):=by omega
 go_region_law_o (refine step_append_room rfl (.tmp 22) (.tmp 25) 73 rfl 86 i0 5 Tryz.underlying73 hi0 hzs g 0 i c (by simp[Act.eval,Act.put]) A (n-j) (c-j) news (by simp[Act.eval,Act.put]) s1.out HSRC.out s2.out (by omega) s3.out ?_;rw[←HW.out])
 all_goals
  go_wp2
  rw[HNP.out]
  exact HPO.out
end Go.Proofs.YtofcicomhnkocaaGreat
