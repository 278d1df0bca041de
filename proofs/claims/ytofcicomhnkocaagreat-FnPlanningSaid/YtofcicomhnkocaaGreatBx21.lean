import Derived.Test.YtofcicomhnkocaaGreatBx20
set_option linter.unusedVariables false
namespace Go.Proofs.YtofcicomhnkocaaGreat
set_option maxHeartbeats 6400000
open Go.RowKit Go.Sort
set_option maxRecDepth 100000
def OwnRtP (st:Int) (xs:List Int) (w:World) (e:Ending) (w':World):Prop:=∃v',e= .returned (.agg #[.int .i64 st,v'])∧OwR w' w.heap.size v' xs∧Below w.heap.size w w'
theorem l4Own_any (st:Int) (v:Value) (xs:List Int) (w:World) (h:Rd w v xs) (hl:xs.length≤900000):
 Calls Tryz.prog 152 #[.agg #[.int .i64 st,v]] w (OwnRtP st xs w):=by
 obtain⟨NP,hNP⟩:∃NP,NP=OwnRtP st xs w:=⟨_,rfl⟩
 rw[←hNP]
 have HOW:=ξh (fun w' (hb:Below w.heap.size w w')=>ξc4 v xs w' (h.belowAll hb) hl)
 obtain⟨ax,cx,nx,HNX,rfl,-,-,-⟩:=h.opn
 have b1:=(ξb w.heap.size w).alloc (ξr _) (.cells #[.int .i64 st,.slice ax nx cx] 82)
 have b2:=b1.alloc b1.size (.cells #[.int .i64 0,.slice none 0 0] 82)
 have HB2:=ξh b2
 have HX1:=ξh (show((w.alloc (.cells #[.int .i64 st,.slice ax nx cx] 82)).alloc (.cells #[.int .i64 0,.slice none 0 0] 82)).heap[w.heap.size]?= some (.cells #[.int .i64 st,.slice ax nx cx] 82 (0,0)) from(heap_alloc_old _ _ (by simp)).trans (ξn w _))
 have HX2:=ξh (show((w.alloc (.cells #[.int .i64 st,.slice ax nx cx] 82)).alloc (.cells #[.int .i64 0,.slice none 0 0] 82)).heap[w.heap.size+1]?= some (.cells #[.int .i64 0,.slice none 0 0] 82 (0,0)) from by have:=ξn (w.alloc (.cells #[.int .i64 st,.slice ax nx cx] 82)) (.cells #[.int .i64 0,.slice none 0 0] 82);simpa using this)
 have HZ2:=ξh (show((w.alloc (.cells #[.int .i64 st,.slice ax nx cx] 82)).alloc (.cells #[.int .i64 0,.slice none 0 0] 82)).heap.size=w.heap.size+2 by simp)
 clear b1 b2 h
 go_enter Tryz.func152,Tryz.ntmps152
 go_upto_region 1 with fail
 generalize (w.alloc (.cells #[.int .i64 st,.slice ax nx cx] 82)).alloc (.cells #[.int .i64 0,.slice none 0 0] 82)=w2 at *
 have hlt1:w.heap.size<w2.heap.size:=by have:=HZ2.out;omega
 have HS:=ξh (fun(w':World) (hb:Below w2.heap.size w2 w')=>show w'.cell? ⟨w.heap.size,0,none⟩=some (.int .i64 st)∧w'.cell? ⟨w.heap.size,1,none⟩=some (.slice ax nx cx) from
  ⟨(hb.cell (p:=⟨w.heap.size,0,none⟩) hlt1).trans (blkc HX1.out rfl),(hb.cell (p:=⟨w.heap.size,1,none⟩) hlt1).trans (blkc HX1.out rfl)⟩)
 have HST:=ξh (fun(w':World) (hb:Below w2.heap.size w2 w') (a b:Value)=>show((w'.setCell ⟨w.heap.size+1,0,none⟩ a).setCell ⟨w.heap.size+1,1,none⟩ b).cell? ⟨w.heap.size,0,none⟩=some (.int .i64 st)∧((w'.setCell ⟨w.heap.size+1,0,none⟩ a).setCell ⟨w.heap.size+1,1,none⟩ b).cell? ⟨w.heap.size,1,none⟩=some (.slice ax nx cx) from by
  obtain⟨h1,h2⟩:=HS.out w' hb
  refine⟨?_,?_⟩
  · rw[World.cell?_setCell_other _ _ _ _ (by simp),World.cell?_setCell_other _ _ _ _ (by simp)];exact h1
  · rw[World.cell?_setCell_other _ _ _ _ (by simp),World.cell?_setCell_other _ _ _ _ (by simp)];exact h2)
 have hb0:=(ξb w2.heap.size w2).drew
 have HO2:=ξh (HOW.out w2.drew (HB2.trans (hb0.mono HB2.size)))
 go_region_held3 (fun w'=>w'.cell? ⟨w.heap.size,0,none⟩=some (.int .i64 st)∧w'.cell? ⟨w.heap.size,1,none⟩=some (.slice ax nx cx))
  (first | exact HS.out _ hb0 | exact HS.out _ B5 | exact HST.out _ B5 _ _)
  (first
    | (go_at_call 187;(with_reducible refine HO2.out.mono ?_);rintro e w5 ⟨v5,rfl,o5,b5⟩;(obtain⟨e5,f5,rfl⟩:=row_form0 o5);(have B5:Below w2.heap.size w2 w5:=hb0.trans (b5.mono hb0.size));(have x10:=ξA HX2.out B5);(have z0:=blkc x10 (show _=some (Value.int .i64 0) from rfl) (j:=0));(have z1:=blkc x10 (show _=some (Value.slice none 0 0) from rfl) (j:=1));(have f0:w5.frozen? ⟨w.heap.size+1,0,none⟩=false:=(by simp only[World.frozen?,x10];rfl));(have f1:w5.frozen? ⟨w.heap.size+1,1,none⟩=false:=(by simp only[World.frozen?,x10];rfl))))
 all_goals
  have HB5:=ξh B5
  have HO5:=ξh (show OwR w5 w2.heap.size _ xs from o5)
  clear b5 o5 B5
  go_wp2_with fail
  subst hNP
  have hz:=HZ2.out
  have hn:∀k,(Value.slice e5 xs.length f5).ownBlock=some k→k≠w.heap.size+1:=fun k hk=>by have:=(HO5.lt k hk).1;omega
  exact bodyPost_ret (v:= .agg #[.int .i64 st,.slice e5 xs.length f5]) (by simp[results,Tryz.results152,go_sem,z0,z1]) rfl ⟨_,rfl,(((HO5.oth hn).oth hn).base (by omega)),((HB2.trans (HB5.mono HB2.size)).setCell (p:=⟨w.heap.size+1,0,none⟩) (Nat.le_succ _) _).setCell (p:=⟨w.heap.size+1,1,none⟩) (Nat.le_succ _) _⟩
def CpP (x:Lgt) (w:World) (e:Ending) (w':World):Prop:=∃v',e= .returned (.agg #[.int .i64 x.id,.int .i64 x.st,v',.int .i64 x.fi,.int .i64 x.ct])∧OwR w' w.heap.size v' x.fb∧Below w.heap.size w w'
theorem l9Copy_any (x:Lgt) (v:Value) (w:World) (h:Rd w v x.fb) (hl:x.fb.length≤900000):
 Calls Tryz.prog 153 #[.agg #[.int .i64 x.id,.int .i64 x.st,v,.int .i64 x.fi,.int .i64 x.ct]] w (CpP x w):=by
 obtain⟨NP,hNP⟩:∃NP,NP=CpP x w:=⟨_,rfl⟩
 rw[←hNP]
 have HOW:=ξh (fun w' (hb:Below w.heap.size w w')=>l4Own_any x.st v x.fb w' (h.belowAll hb) hl)
 obtain⟨ax,cx,nx,HNX,rfl,-,-,-⟩:=h.opn
 have b1:=(ξb w.heap.size w).alloc (ξr _) (.cells #[.int .i64 x.id,.int .i64 x.st,.slice ax nx cx,.int .i64 x.fi,.int .i64 x.ct] 86)
 have b2:=b1.alloc b1.size (.cells #[.int .i64 0,.int .i64 0,.slice none 0 0,.int .i64 0,.int .i64 0] 86)
 have HB2:=ξh b2
 have HX1:=ξh (show((w.alloc (.cells #[.int .i64 x.id,.int .i64 x.st,.slice ax nx cx,.int .i64 x.fi,.int .i64 x.ct] 86)).alloc (.cells #[.int .i64 0,.int .i64 0,.slice none 0 0,.int .i64 0,.int .i64 0] 86)).heap[w.heap.size]?= some (.cells #[.int .i64 x.id,.int .i64 x.st,.slice ax nx cx,.int .i64 x.fi,.int .i64 x.ct] 86 (0,0)) from(heap_alloc_old _ _ (by simp)).trans (ξn w _))
 have HX2:=ξh (show((w.alloc (.cells #[.int .i64 x.id,.int .i64 x.st,.slice ax nx cx,.int .i64 x.fi,.int .i64 x.ct] 86)).alloc (.cells #[.int .i64 0,.int .i64 0,.slice none 0 0,.int .i64 0,.int .i64 0] 86)).heap[w.heap.size+1]?= some (.cells #[.int .i64 0,.int .i64 0,.slice none 0 0,.int .i64 0,.int .i64 0] 86 (0,0)) from by have:=ξn (w.alloc (.cells #[.int .i64 x.id,.int .i64 x.st,.slice ax nx cx,.int .i64 x.fi,.int .i64 x.ct] 86)) (.cells #[.int .i64 0,.int .i64 0,.slice none 0 0,.int .i64 0,.int .i64 0] 86);simpa using this)
 have HZ2:=ξh (show((w.alloc (.cells #[.int .i64 x.id,.int .i64 x.st,.slice ax nx cx,.int .i64 x.fi,.int .i64 x.ct] 86)).alloc (.cells #[.int .i64 0,.int .i64 0,.slice none 0 0,.int .i64 0,.int .i64 0] 86)).heap.size=w.heap.size+2 by simp)
 clear b1 b2 h
 go_enter Tryz.func153,Tryz.ntmps153
 go_upto_region 1 with fail
 generalize ((w.alloc (.cells #[.int .i64 x.id,.int .i64 x.st,.slice ax nx cx,.int .i64 x.fi,.int .i64 x.ct] 86)).alloc (.cells #[.int .i64 0,.int .i64 0,.slice none 0 0,.int .i64 0,.int .i64 0] 86))=w2 at *
 have hlt1:w.heap.size<w2.heap.size:=by have:=HZ2.out;omega
 have HS:=ξh (fun(w':World) (hb:Below w2.heap.size w2 w')=>show w'.cell? ⟨w.heap.size,0,none⟩=some (.int .i64 x.id)∧w'.cell? ⟨w.heap.size,1,none⟩=some (.int .i64 x.st)∧w'.cell? ⟨w.heap.size,2,none⟩=some (.slice ax nx cx)∧w'.cell? ⟨w.heap.size,3,none⟩=some (.int .i64 x.fi)∧w'.cell? ⟨w.heap.size,4,none⟩=some (.int .i64 x.ct) from
  ⟨(hb.cell (p:=⟨w.heap.size,0,none⟩) hlt1).trans (blkc HX1.out rfl),(hb.cell (p:=⟨w.heap.size,1,none⟩) hlt1).trans (blkc HX1.out rfl),(hb.cell (p:=⟨w.heap.size,2,none⟩) hlt1).trans (blkc HX1.out rfl),(hb.cell (p:=⟨w.heap.size,3,none⟩) hlt1).trans (blkc HX1.out rfl),(hb.cell (p:=⟨w.heap.size,4,none⟩) hlt1).trans (blkc HX1.out rfl)⟩)
 have HST:=ξh (fun(w':World) (hb:Below w2.heap.size w2 w') (a0 a1 a2 a3 a4:Value)=>show(((((w'.setCell ⟨w.heap.size+1,0,none⟩ a0).setCell ⟨w.heap.size+1,1,none⟩ a1).setCell ⟨w.heap.size+1,2,none⟩ a2).setCell ⟨w.heap.size+1,3,none⟩ a3).setCell ⟨w.heap.size+1,4,none⟩ a4).cell? ⟨w.heap.size,0,none⟩=some (.int .i64 x.id)∧(((((w'.setCell ⟨w.heap.size+1,0,none⟩ a0).setCell ⟨w.heap.size+1,1,none⟩ a1).setCell ⟨w.heap.size+1,2,none⟩ a2).setCell ⟨w.heap.size+1,3,none⟩ a3).setCell ⟨w.heap.size+1,4,none⟩ a4).cell? ⟨w.heap.size,1,none⟩=some (.int .i64 x.st)∧(((((w'.setCell ⟨w.heap.size+1,0,none⟩ a0).setCell ⟨w.heap.size+1,1,none⟩ a1).setCell ⟨w.heap.size+1,2,none⟩ a2).setCell ⟨w.heap.size+1,3,none⟩ a3).setCell ⟨w.heap.size+1,4,none⟩ a4).cell? ⟨w.heap.size,2,none⟩=some (.slice ax nx cx)∧(((((w'.setCell ⟨w.heap.size+1,0,none⟩ a0).setCell ⟨w.heap.size+1,1,none⟩ a1).setCell ⟨w.heap.size+1,2,none⟩ a2).setCell ⟨w.heap.size+1,3,none⟩ a3).setCell ⟨w.heap.size+1,4,none⟩ a4).cell? ⟨w.heap.size,3,none⟩=some (.int .i64 x.fi)∧(((((w'.setCell ⟨w.heap.size+1,0,none⟩ a0).setCell ⟨w.heap.size+1,1,none⟩ a1).setCell ⟨w.heap.size+1,2,none⟩ a2).setCell ⟨w.heap.size+1,3,none⟩ a3).setCell ⟨w.heap.size+1,4,none⟩ a4).cell? ⟨w.heap.size,4,none⟩=some (.int .i64 x.ct) from by
  obtain⟨h1,h2,h3,h4,h5⟩:=HS.out w' hb
  refine⟨?_,?_,?_,?_,?_⟩
  · rw[World.cell?_setCell_other _ _ _ _ (by simp),World.cell?_setCell_other _ _ _ _ (by simp),World.cell?_setCell_other _ _ _ _ (by simp),World.cell?_setCell_other _ _ _ _ (by simp),World.cell?_setCell_other _ _ _ _ (by simp)];exact h1
  · rw[World.cell?_setCell_other _ _ _ _ (by simp),World.cell?_setCell_other _ _ _ _ (by simp),World.cell?_setCell_other _ _ _ _ (by simp),World.cell?_setCell_other _ _ _ _ (by simp),World.cell?_setCell_other _ _ _ _ (by simp)];exact h2
  · rw[World.cell?_setCell_other _ _ _ _ (by simp),World.cell?_setCell_other _ _ _ _ (by simp),World.cell?_setCell_other _ _ _ _ (by simp),World.cell?_setCell_other _ _ _ _ (by simp),World.cell?_setCell_other _ _ _ _ (by simp)];exact h3
  · rw[World.cell?_setCell_other _ _ _ _ (by simp),World.cell?_setCell_other _ _ _ _ (by simp),World.cell?_setCell_other _ _ _ _ (by simp),World.cell?_setCell_other _ _ _ _ (by simp),World.cell?_setCell_other _ _ _ _ (by simp)];exact h4
  · rw[World.cell?_setCell_other _ _ _ _ (by simp),World.cell?_setCell_other _ _ _ _ (by simp),World.cell?_setCell_other _ _ _ _ (by simp),World.cell?_setCell_other _ _ _ _ (by simp),World.cell?_setCell_other _ _ _ _ (by simp)];exact h5)
 have hb0:=(ξb w2.heap.size w2).drew
 have HO2:=ξh (HOW.out w2.drew (HB2.trans (hb0.mono HB2.size)))
 go_region_held3 (fun w'=>w'.cell? ⟨w.heap.size,0,none⟩=some (.int .i64 x.id)∧w'.cell? ⟨w.heap.size,1,none⟩=some (.int .i64 x.st)∧w'.cell? ⟨w.heap.size,2,none⟩=some (.slice ax nx cx)∧w'.cell? ⟨w.heap.size,3,none⟩=some (.int .i64 x.fi)∧w'.cell? ⟨w.heap.size,4,none⟩=some (.int .i64 x.ct))
  (first | exact HS.out _ hb0 | exact HS.out _ B5 | exact HST.out _ B5 _ _ _ _ _)
  (first
    | (go_at_call 152;(with_reducible refine HO2.out.mono ?_);rintro e w5 ⟨v5,rfl,o5,b5⟩;(obtain⟨e5,f5,rfl⟩:=row_form0 o5);(have B5:Below w2.heap.size w2 w5:=hb0.trans (b5.mono hb0.size));(have x10:=ξA HX2.out B5);(have z0:=blkc x10 (show _=some (Value.int .i64 0) from rfl) (j:=0));(have f0:w5.frozen? ⟨w.heap.size+1,0,none⟩=false:=(by simp only[World.frozen?,x10];rfl));(have z1:=blkc x10 (show _=some (Value.int .i64 0) from rfl) (j:=1));(have f1:w5.frozen? ⟨w.heap.size+1,1,none⟩=false:=(by simp only[World.frozen?,x10];rfl));(have z2:=blkc x10 (show _=some (Value.slice none 0 0) from rfl) (j:=2));(have f2:w5.frozen? ⟨w.heap.size+1,2,none⟩=false:=(by simp only[World.frozen?,x10];rfl));(have z3:=blkc x10 (show _=some (Value.int .i64 0) from rfl) (j:=3));(have f3:w5.frozen? ⟨w.heap.size+1,3,none⟩=false:=(by simp only[World.frozen?,x10];rfl));(have z4:=blkc x10 (show _=some (Value.int .i64 0) from rfl) (j:=4));(have f4:w5.frozen? ⟨w.heap.size+1,4,none⟩=false:=(by simp only[World.frozen?,x10];rfl))))
 all_goals
  have HB5:=ξh B5
  have HO5:=ξh (show OwR w5 w2.heap.size _ x.fb from o5)
  clear b5 o5 B5
  go_wp2_with fail
  subst hNP
  have hz:=HZ2.out
  have hn:∀k,(Value.slice e5 x.fb.length f5).ownBlock=some k→k≠w.heap.size+1:=fun k hk=>by have:=(HO5.lt k hk).1;omega
  exact bodyPost_ret (v:= .agg #[.int .i64 x.id,.int .i64 x.st,.slice e5 x.fb.length f5,.int .i64 x.fi,.int .i64 x.ct]) (by simp[results,Tryz.results153,go_sem,z0,z1,z2,z3,z4]) rfl ⟨_,rfl,((((((HO5.oth hn).oth hn).oth hn).oth hn).oth hn).base (by omega)),((((((HB2.trans (HB5.mono HB2.size)).setCell (p:=⟨w.heap.size+1,0,none⟩) (Nat.le_succ _) _).setCell (p:=⟨w.heap.size+1,1,none⟩) (Nat.le_succ _) _).setCell (p:=⟨w.heap.size+1,2,none⟩) (Nat.le_succ _) _).setCell (p:=⟨w.heap.size+1,3,none⟩) (Nat.le_succ _) _).setCell (p:=⟨w.heap.size+1,4,none⟩) (Nat.le_succ _) _)⟩
open Go.RowKit
def plI (xs:List Int) (x:Int):Int:=match xs.findIdx? (fun s=>s==x) with | some i=>(i:Int) | none=> -1
theorem plI_none {xs:List Int} {x:Int} (h:xs.any (fun s=>s==x)=false):plI xs x= -1:=by
 unfold plI
 rw[List.findIdx?_eq_none_iff.2 fun s hs=>by
  have:=(List.any_eq_false.1 h) s hs
  simpa using this]
theorem plI_some {xs:List Int} {x:Int} {k:Nat} (hk:k<xs.length) (h:(xs.take k).any (fun s=>s==x)=false) (e:xs[k]?.getD 0=x):plI xs x=(k:Int):=by
 rw[ξg hk] at e
 unfold plI
 rw[List.findIdx?_eq_some_iff_getElem.2 ⟨hk,by simpa using e,fun j hj=>by
  have:=(List.any_eq_false.1 h) (xs[j]'(by omega)) (List.mem_take_iff_getElem.2 ⟨j,by omega,rfl⟩)
  simpa using this⟩]
theorem anyI_more {xs:List Int} {x:Int} {k:Nat} (hk:k<xs.length) (h:(xs.take k).any (fun s=>s==x)=false) (e:xs[k]?.getD 0≠x):(xs.take (k+1)).any (fun s=>s==x)=false:=by
 rw[ξg hk] at e
 rw[List.take_add_one,List.any_append,h,ξg hk]
 simpa using e
theorem plI_geq (xs:List Int) (x:Int):decide (0≤plI xs x)=xs.contains x:=by
 cases h:xs.findIdx? (fun s=>s==x) with
 | none=>
   have h0:=h
   rw[List.findIdx?_eq_none_iff] at h
   unfold plI
   rw[h0]
   have:xs.contains x=false:=by
    rw[←Bool.not_eq_true,List.contains_iff_mem]
    intro hm
    have:=h x hm
    simp at this
   rw[this];rfl
 | some k=>
   have h0:=h
   rw[List.findIdx?_eq_some_iff_getElem] at h
   obtain⟨hk,e,_⟩:=h
   unfold plI
   rw[h0]
   have:xs.contains x=true:=by rw[List.contains_iff_mem];have:=ξj hk;rw[eq_of_beq e] at this;exact this
   rw[this];simp
theorem hasI_yes {xs:List Int} {x:Int} {k:Nat} (hk:k<xs.length) (e:xs[k]?.getD 0=x):xs.contains x=true:=by
 rw[ξg hk] at e
 rw[List.contains_iff_mem,←show xs[k]=x from e];exact ξj hk
theorem hasI_no {xs:List Int} {x:Int} (h:xs.any (fun s=>s==x)=false):xs.contains x=false:=by
 rw[←Bool.not_eq_true,List.contains_iff_mem]
 intro hm
 have:=(List.any_eq_false.1 h) x hm
 simp at this
theorem indexI_any (v:Value) (xs:List Int) (x:Int) (w:World) (h:Rd w v xs):
 Calls Tryz.prog 118 #[v,.int .i64 x] w fun e w'=>e= .returned (.int .i64 (plI xs x))∧w=w':=by
 obtain⟨a,cap,n,HN,rfl,_,hnl,ha⟩:=h.opn
 have HA:=ξh ha
 have HP:=ξh (fun k (hk:k<xs.length)=>@plI_some xs x k hk)
 have HM:=ξh (fun k (hk:k<xs.length)=>@anyI_more xs x k hk)
 have HO:=ξh (@plI_none xs x)
 clear ha h
 generalize plI xs x=r at *
 go_enter Tryz.func118,Tryz.ntmps118
 go_wp2
 go_loop [5,8] (fun _ i=>∃k:Nat,k≤n∧i= .int .i64 k∧Hid ((xs.take k).any (fun s=>s==x)=false)) (fun _ i=>n-(intOf i).toNat)
 case atStart=>exact⟨0,ξu _,rfl,by simp[Hid]⟩
 case round=>
  obtain⟨k,hk,rfl,HT⟩:=hrel
  by_cases hlt:k<n
  · have hltI:(k:Int)<(n:Int):=by omega
    have hkx:k<xs.length:=by rw[HN.out];exact hlt
    obtain⟨b,off,rfl,hbs,hcs⟩:=HA.out (by omega)
    have hc0:=hcs k hlt
    have HP1:=ξh (HP.out k hkx HT.out)
    have HM1:=ξh (HM.out k hkx HT.out)
    clear hcs hkx
    generalize xs[k]?.getD 0=y at *
    by_cases he:y=x
    · have HE:=ξh (HP1.out he)
      have hb1:(x==y)=true:=by simp[he]
      have hb2:(y==x)=true:=by simp[he]
      clear he
      go_wp2
      go_ret
      exact⟨by rw[HE.out];rfl,rfl⟩
    · have HE:=ξh (HM1.out he)
      have hb1:(x==y)=false:=by simp;exact fun e=>he e.symm
      have hb2:(y==x)=false:=by simp[he]
      clear he
      go_wp2
      go_round
      case rel=>exact⟨k+1,by omega,by go_num,HE.out⟩
      case measure=>simp[intOf];omega
  · obtain rfl:k=n:=by omega
    have hall:=HT.out
    rw[←HN.out,List.take_length] at hall
    have HE:=ξh (HO.out hall)
    clear hall
    go_wp2
    go_ret
    exact⟨by rw[HE.out];rfl,rfl⟩
theorem ξbl (v:Value) (xs:List Int) (x:Int) (w:World) (h:Rd w v xs):
 Calls Tryz.prog 65 #[v,.int .i64 x] w fun e w'=>e= .returned (.bool (xs.contains x))∧w=w':=by
 have HI:=ξh (indexI_any v xs x w h)
 have HG:=ξh (plI_geq xs x)
 generalize plI xs x=r at *
 generalize xs.contains x=q at *
 obtain⟨a,cap,n,-,rfl,-,-,-⟩:=h.opn
 clear h
 go_enter Tryz.func65,Tryz.ntmps65
 go_wp2_with (go_at_call 118;refine(HI.out).mono ?_;rintro e w' ⟨rfl,rfl⟩)
 go_ret
 exact⟨by rw[←HG.out];rfl,rfl⟩
theorem ξbh (v:Value) (xs:List Int) (x:Int) (w:World) (h:Rd w v xs):
 Calls Tryz.prog 59 #[v,.int .i64 x] w fun e w'=>e= .returned (.bool (xs.contains x))∧w=w':=by
 obtain⟨a,cap,n,HN,rfl,_,hnl,ha⟩:=h.opn
 have HA:=ξh ha
 have HP:=ξh (fun k (hk:k<xs.length)=>@hasI_yes xs x k hk)
 have HM:=ξh (fun k (hk:k<xs.length)=>@anyI_more xs x k hk)
 have HO:=ξh (@hasI_no xs x)
 clear ha h
 generalize xs.contains x=r at *
 go_enter Tryz.func59,Tryz.ntmps59
 go_wp2
 go_loop [5] (fun i=>∃k:Nat,k≤n∧i= .int .i64 k∧Hid ((xs.take k).any (fun s=>s==x)=false)) (fun i=>n-(intOf i).toNat)
 case atStart=>exact⟨0,ξu _,rfl,by simp[Hid]⟩
 case round=>
  obtain⟨k,hk,rfl,HT⟩:=hrel
  by_cases hlt:k<n
  · have hltI:(k:Int)<(n:Int):=by omega
    have hkx:k<xs.length:=by rw[HN.out];exact hlt
    obtain⟨b,off,rfl,hbs,hcs⟩:=HA.out (by omega)
    have hc0:=hcs k hlt
    have HP1:=ξh (HP.out k hkx)
    have HM1:=ξh (HM.out k hkx HT.out)
    clear hcs hkx
    generalize xs[k]?.getD 0=y at *
    by_cases he:y=x
    · have HE:=ξh (HP1.out he)
      have hb2:(y==x)=true:=by simp[he]
      clear he
      go_wp2
      go_ret
      exact⟨by rw[HE.out];rfl,rfl⟩
    · have HE:=ξh (HM1.out he)
      have hb2:(y==x)=false:=by simp[he]
      clear he
      go_wp2
      go_round
      case rel=>exact⟨k+1,by omega,by go_num,HE.out⟩
      case measure=>simp[intOf];omega
  · obtain rfl:k=n:=by omega
    have hall:=HT.out
    rw[←HN.out,List.take_length] at hall
    have HE:=ξh (HO.out hall)
    clear hall
    go_wp2
    go_ret
    exact⟨by rw[HE.out];rfl,rfl⟩
theorem ξbr (x:Int) (w:World):Calls Tryz.prog 263 #[.int .i64 x] w fun e w'=>e= .returned (.int .i64 (sgnI x))∧w=w':=by
 by_cases h1:x<0
 · have h1d:decide (x<0)=true:=ξt h1
   have HR:=ξh (show sgnI x= -1 by unfold sgnI;rw[if_pos h1])
   go_enter Tryz.func263,Tryz.ntmps263
   go_wp2
   go_ret
   exact⟨by rw[HR.out];rfl,rfl⟩
 have h1d:decide (x<0)=false:=ξf h1
 by_cases h2:0<x
 · have h2d:decide (x>0)=true:=ξt h2
   have HR:=ξh (show sgnI x=1 by unfold sgnI;rw[if_neg h1,if_pos h2])
   go_enter Tryz.func263,Tryz.ntmps263
   go_wp2
   go_ret
   exact⟨by rw[HR.out];rfl,rfl⟩
 · have h2d:decide (x>0)=false:=ξf h2
   have HR:=ξh (show sgnI x=0 by unfold sgnI;rw[if_neg h1,if_neg h2])
   go_enter Tryz.func263,Tryz.ntmps263
   go_wp2
   go_ret
   exact⟨by rw[HR.out];rfl,rfl⟩
theorem ξbF (u1 u2 v:Value) (n:Net) (st:Int) (fs:List Int) (w:World) (h:Rdt w (flt 4 fibE n.fs) u2) (h1:∃a m c,u1= .slice a m c) (hr:Rd w v fs) (hl:fs.length≤1000) (hi:ξa7 n fs) (hb:LenOk n):
 Calls Tryz.prog 216 #[.agg #[u1,u2],.agg #[.int .i64 st,v]] w fun e w'=>e= .returned (.int .i64 (lenR n fs))∧Below w.heap.size w w':=by
 obtain⟨a1,m1,c1,rfl⟩:=h1
 obtain⟨a2,m2,c2,rfl,HN2,hc2,hm2,ha2⟩:=ξC (m:=4) (enc:=fibE) (fun _=>rfl) (by omega) nilB h
 obtain⟨a3,c3,m3,HN3,rfl,hc3,hm3,ha3⟩:=hr.opn
 have HA2:=ξh ha2
 have HA3:=ξh ha3
 have HT:=ξh (fun k (hk:k<fs.length)=>@lenR_take n fs k hk)
 have HB:=ξh (fun k=>lenR_bdt hb hl k)
 have HL:=ξh hb
 have HI:=ξh (show∀k:Nat,k<m3→0≤fs[k]?.getD 0∧fs[k]?.getD 0<m2 from fun k hk=>by
  have:=hi k (by have:=HN3.out;omega)
  rwa [show n.fs.length=m2 from HN2.out] at this)
 have HR:=ξh (show lenR n (fs.take m3)=lenR n fs by rw[List.take_of_length_le (Nat.le_of_eq HN3.out)])
 have h10:m3≤1000:=by have:=HN3.out;omega
 rw[HN3.out] at HT
 obtain⟨bx,bc,blt,-⟩:=ξD w #[.slice a1 m1 c1,.slice a2 m2 c2] 35
 obtain⟨by',bd,bmt,-⟩:=ξD (w.alloc (.cells #[.slice a1 m1 c1,.slice a2 m2 c2] 35)) #[.int .i64 st,.slice a3 m3 c3] 82
 have q1:=(by'.cell (p:=⟨w.heap.size,1,none⟩) blt).trans (bc 1 _ rfl)
 have q3:=bd 1 _ rfl
 have hs1:(w.alloc (.cells #[.slice a1 m1 c1,.slice a2 m2 c2] 35)).heap.size=w.heap.size+1:=by simp
 rw[hs1] at q3 bmt
 have blt2:=ξq blt by'.size
 have HBX:=ξh (bx.trans (by'.mono bx.size))
 clear bc bd bx by' hs1 ha2 ha3 h hr blt hl hi hb
 go_enter Tryz.func216,Tryz.ntmps216
 go_wp2
 generalize (w.alloc (.cells #[.slice a1 m1 c1,.slice a2 m2 c2] 35)).alloc (.cells #[.int .i64 st,.slice a3 m3 c3] 82)=W at *
 have HQ:=ξh (fun w' (hb:Below W.heap.size W w')=>show w'.cell? ⟨w.heap.size,1,none⟩=some (.slice a2 m2 c2)∧w'.cell? ⟨w.heap.size+1,1,none⟩=some (.slice a3 m3 c3) from⟨(hb.cell blt2).trans q1,(hb.cell bmt).trans q3⟩)
 clear q1 q3
 go_loopw [5,6] (fun s5 i wr=>∃k:Nat,k≤m3∧i= .int .i64 k∧s5= .int .i64 (lenR n (fs.take k))∧Hid (Below W.heap.size W wr)) (fun _ i _=>m3-(intOf i).toNat)
 case atStart=>exact⟨0,ξu _,rfl,rfl,ξb _ _⟩
 case round=>
  obtain⟨k,hk,rfl,rfl,HW⟩:=hrel
  obtain⟨q1,q3⟩:=HQ.out _ HW.out
  by_cases hlt:k<m3
  · have hltI:(k:Int)<(m3:Int):=by omega
    obtain⟨b,off,rfl,hbs,hcs⟩:=HA3.out (by omega)
    have HWW:=ξh (HBX.trans (HW.mono HBX.size))
    have e0:=(HWW.cell (p:=⟨b,off+k,none⟩) hbs).trans (hcs k hlt)
    have hg:=HI.out k hlt
    have HTK:=ξh (HT.out k hlt)
    have HBK:=HB.out k
    clear hcs
    generalize fs[k]?.getD 0=g at *
    obtain⟨gn,rfl⟩:∃gn:Nat,g=(gn:Int):=⟨g.toNat,by omega⟩
    have hgn:gn<m2:=by omega
    have hgnI:(gn:Int)<(m2:Int):=by omega
    obtain⟨b1,off1,rfl,hbs1,hcs1⟩:=HA2.out (by omega)
    have e1:=(HWW.cell (p:=⟨b1,off1+gn*4+2,none⟩) hbs1).trans (hcs1 gn hgn 2 _ rfl)
    have hlg:=HL.out gn
    rw[show((gn:Int)).toNat=gn from rfl] at HTK
    clear hcs1 hg
    unfold fbA at HTK hlg
    generalize (n.fs[gn]?.getD nilB).l=lg at *
    generalize lenR n (fs.take k)=s at *
    have hw:wrap64 (s+lg)=s+lg:=ξw _ (by omega)
    go_wp2_with fail
    go_quiet (fail)
    have HW2:=ξh (show Below W.heap.size W (wr.drewN nq) from Dr.below ⟨nq,rfl⟩ HW.out)
    go_wp2
    go_roundw
    case rel=>exact⟨k+1,hlt,by go_num,by rw[HTK.out],HW2⟩
    case measure=>simp[intOf];omega
  · obtain rfl:m3=k:=by omega
    go_wp2
    go_ret
    exact⟨by rw[←HR.out];rfl,HBX.trans (HW.mono HBX.size)⟩
theorem lexI_same {a b:List Int} {k:Nat} (h1:k<a.length) (h2:k<b.length) (e:a[k]?.getD 0=b[k]?.getD 0):lexI (a.drop (k+1)) (b.drop (k+1))=lexI (a.drop k) (b.drop k):=
 lexI_go h1 h2 (by rw[e];unfold cmpI;rw[if_neg (by omega),if_neg (by omega)])
theorem lexI_diff {a b:List Int} {k:Nat} (h1:k<a.length) (h2:k<b.length) (e:a[k]?.getD 0≠b[k]?.getD 0):lexI (a.drop k) (b.drop k)=sgnI (a[k]?.getD 0-b[k]?.getD 0):=by
 rw[lexI_step h1 h2]
 generalize a[k]?.getD 0=x at *
 generalize b[k]?.getD 0=y at *
 unfold cmpI sgnI
 by_cases h:x<y
 · rw[if_pos h,if_neg (by omega),if_pos (by omega)]
 · rw[if_neg h,if_pos (show y<x by omega),if_neg (by omega),if_neg (by omega),if_pos (by omega)]
theorem cmpR_len {n:Net} {a b:List Int} (h:lenR n a≠lenR n b):cmpR n a b=sgnI (lenR n a-lenR n b):=by unfold cmpR;rw[if_neg h]
theorem cmpR_cnt {n:Net} {a b:List Int} (h:lenR n a=lenR n b) (h2:a.length≠b.length):cmpR n a b=sgnI ((a.length:Int)-b.length):=by unfold cmpR;rw[if_pos h,if_neg h2]
theorem cmpR_lex {n:Net} {a b:List Int} (h:lenR n a=lenR n b) (h2:a.length=b.length):cmpR n a b=lexI (a.drop 0) (b.drop 0):=by unfold cmpR;rw[if_pos h,if_pos h2];rfl
theorem l4Compare_any (u1 u2 va vb:Value) (n:Net) (st:Int) (xs ys:List Int) (w:World) (h:Rdt w (flt 4 fibE n.fs) u2) (h1:∃a m c,u1= .slice a m c) (ha:Rd w va xs) (hb:Rd w vb ys)
 (hlx:xs.length≤1000) (hly:ys.length≤1000) (hix:ξa7 n xs) (hiy:ξa7 n ys) (hL:LenOk n):
 Calls Tryz.prog 253 #[.agg #[u1,u2],.agg #[.int .i64 st,va],.agg #[.int .i64 st,vb]] w fun e w'=>e= .returned (.int .i64 (cmpR n xs ys))∧Below w.heap.size w w':=by
 have HX:=ξh (fun w' (hw:Below w.heap.size w w')=>ξbF u1 u2 va n st xs w' (h.behind hw) h1 (ha.belowAll hw) hlx hix hL)
 have HY:=ξh (fun w' (hw:Below w.heap.size w w')=>ξbF u1 u2 vb n st ys w' (h.behind hw) h1 (hb.belowAll hw) hly hiy hL)
 have hLX:=lenR_bd hL xs
 have hLY:=lenR_bd hL ys
 have HCL:=ξh (@cmpR_len n xs ys)
 have HCC:=ξh (@cmpR_cnt n xs ys)
 have HCX:=ξh (@cmpR_lex n xs ys)
 have HSM:=ξh (fun k (h1:k<xs.length) (h2:k<ys.length)=>@lexI_same xs ys k h1 h2)
 have HDF:=ξh (fun k (h1:k<xs.length) (h2:k<ys.length)=>@lexI_diff xs ys k h1 h2)
 have HEN:=ξh (fun(h:xs.length=ys.length)=>show lexI (xs.drop xs.length) (ys.drop xs.length)=0 from by rw[lexI_end2 rfl (by omega),if_neg (by omega)])
 have HIX:=ξh hix
 have HIY:=ξh hiy
 obtain⟨a1,m1,c1,rfl⟩:=h1
 obtain⟨a2,m2,c2,rfl,HN2,-,hm2,-⟩:=ξC (m:=4) (enc:=fibE) (fun _=>rfl) (by omega) nilB h
 obtain⟨a3,c3,m3,HN3,rfl,-,hm3,ha3⟩:=ha.opn
 obtain⟨a4,c4,m4,HN4,rfl,-,hm4,ha4⟩:=hb.opn
 have HA3:=ξh ha3
 have HA4:=ξh ha4
 rw[show xs.length=m3 from HN3.out] at HCC HCX HSM HDF HEN hlx hLX
 rw[show ys.length=m4 from HN4.out] at HCC HCX HSM HDF HEN hly hLY
 have HIX:=ξh (show∀k:Nat,k<m3→0≤xs[k]?.getD 0∧xs[k]?.getD 0<m2 from fun k hk=>by
  have:=HIX.out k (by have:=HN3.out;omega)
  rwa [show n.fs.length=m2 from HN2.out] at this)
 have HIY:=ξh (show∀k:Nat,k<m4→0≤ys[k]?.getD 0∧ys[k]?.getD 0<m2 from fun k hk=>by
  have:=HIY.out k (by have:=HN4.out;omega)
  rwa [show n.fs.length=m2 from HN2.out] at this)
 clear h ha hb hix hiy hL ha3 ha4
 generalize lenR n xs=lx at *
 generalize lenR n ys=ly at *
 generalize cmpR n xs ys=R at *
 obtain⟨hBX,g0,g1,g2,hsz⟩:=ξal w (.cells #[.slice a1 m1 c1,.slice a2 m2 c2] 35) (.cells #[.int .i64 st,.slice a3 m3 c3] 82) (.cells #[.int .i64 st,.slice a4 m4 c4] 82)
 have HBX:=ξh hBX
 have q0:=blkc g0 (j:=0) (show _=some (.slice a1 m1 c1) from rfl)
 have q1:=blkc g0 (j:=1) (show _=some (.slice a2 m2 c2) from rfl)
 have q2:=blkc g1 (j:=0) (show _=some (.int .i64 st) from rfl)
 have q3:=blkc g1 (j:=1) (show _=some (.slice a3 m3 c3) from rfl)
 have q4:=blkc g2 (j:=0) (show _=some (.int .i64 st) from rfl)
 have q5:=blkc g2 (j:=1) (show _=some (.slice a4 m4 c4) from rfl)
 clear g0 g1 g2 hBX
 go_enter Tryz.func253,Tryz.ntmps253
 go_wp2
 generalize ((w.alloc (.cells #[.slice a1 m1 c1,.slice a2 m2 c2] 35)).alloc (.cells #[.int .i64 st,.slice a3 m3 c3] 82)).alloc (.cells #[.int .i64 st,.slice a4 m4 c4] 82)=w2 at *
 have HS:=ξh (fun(w':World) (hb:Below w2.heap.size w2 w')=>show w'.cell? ⟨w.heap.size,0,none⟩=some (.slice a1 m1 c1)∧w'.cell? ⟨w.heap.size,1,none⟩=some (.slice a2 m2 c2)∧w'.cell? ⟨w.heap.size+1,0,none⟩=some (.int .i64 st)∧w'.cell? ⟨w.heap.size+1,1,none⟩=some (.slice a3 m3 c3)∧w'.cell? ⟨w.heap.size+1+1,0,none⟩=some (.int .i64 st)∧w'.cell? ⟨w.heap.size+1+1,1,none⟩=some (.slice a4 m4 c4) from
  ⟨(hb.cell (show w.heap.size<_ by omega)).trans q0,(hb.cell (show w.heap.size<_ by omega)).trans q1,(hb.cell (show w.heap.size+1<_ by omega)).trans q2,(hb.cell (show w.heap.size+1<_ by omega)).trans q3,(hb.cell (show w.heap.size+1+1<_ by omega)).trans q4,(hb.cell (show w.heap.size+1+1<_ by omega)).trans q5⟩)
 have HXB:=ξh (fun d os=>HX.out (grow (redrawn w2 d) os) (HBX.trans ((ξc _ _ _).mono HBX.size)))
 have HYB:=ξh (fun d os=>HY.out (grow (redrawn w2 d) os) (HBX.trans ((ξc _ _ _).mono HBX.size)))
 have j0:=rg q0
 have j1:=rg q1
 have j2:=rg q2
 have j3:=rg q3
 have j4:=rg q4
 have j5:=rg q5
 have hsub:IntKind.i64.wrap (lx-ly)=lx-ly:=ξi _ (by omega)
 clear q0 q1 q2 q3 q4 q5
 refine ξv ?_
 repeat (go_big_quiet_step (first | (go_at_call 216;first | (with_reducible exact Calls.regrown_of (HXB.out _ _)) | (with_reducible exact Calls.regrown_of (HYB.out _ _)))))
 refine wpQuiet_nil ?_
 rintro _ ⟨⟨dq,osq⟩,rfl⟩
 have HB2:=ξh (show Below w2.heap.size w2 (grow (redrawn w2 dq) osq) from ξc _ dq osq)
 clear j0 j1 j2 j3 j4 j5
 generalize grow (redrawn w2 dq) osq=w3 at *
 by_cases hd:lx=ly
 · have hdb:(lx-ly != 0)=false:=by rw[hd];simp
   obtain⟨q0,q1,q2,q3,q4,q5⟩:=HS.out _ HB2.out
   by_cases hc:m3=m4
   · have HR:=ξh (HCX.out hd hc)
     obtain rfl:m4=m3:=hc.symm
     have hcb:(((m4:Int)-(m4:Int)) != 0)=false:=by simp
     clear hd HCC HCL hc
     go_wp2
     go_loopw [9] (fun i wr=>∃k:Nat,k≤m4∧i= .int .i64 k∧Hid (lexI (xs.drop k) (ys.drop k)=R)∧Hid (Below w2.heap.size w2 wr)) (fun i _=>m4-(intOf i).toNat)
     case atStart=>exact⟨0,ξu _,rfl,HR.symm,HB2.out⟩
     case round=>
      obtain⟨k,hk,rfl,HK,HW⟩:=hrel
      obtain⟨q0,q1,q2,q3,q4,q5⟩:=HS.out _ HW.out
      by_cases hlt:k<m4
      · have hltI:(k:Int)<(m4:Int):=by omega
        obtain⟨b,off,rfl,hbs,hcs⟩:=HA3.out (by omega)
        obtain⟨b2,off2,rfl,hbs2,hcs2⟩:=HA4.out (by omega)
        have HWW:=ξh (HBX.trans (HW.mono HBX.size))
        have e0:=(HWW.cell (p:=⟨b,off+k,none⟩) hbs).trans (hcs k hlt)
        have e1:=(HWW.cell (p:=⟨b2,off2+k,none⟩) hbs2).trans (hcs2 k hlt)
        have hx:=HIX.out k hlt
        have hy:=HIY.out k hlt
        have HS1:=ξh (HSM.out k hlt hlt)
        have HD1:=ξh (HDF.out k hlt hlt)
        clear hcs hcs2
        generalize xs[k]?.getD 0=x at *
        generalize ys[k]?.getD 0=y at *
        by_cases he:x=y
        · have HT:=ξh ((HS1.out he).trans HK.out)
          have heb:(x != y)=false:=by rw[he];simp
          clear he
          go_wp2_with fail
          go_quiet (fail)
          have HW2:=ξh (show Below w2.heap.size w2 (wr.drewN nq) from Dr.below ⟨nq,rfl⟩ HW.out)
          go_wp2
          go_roundw
          case rel=>exact⟨k+1,hlt,by go_num,HT,HW2⟩
          case measure=>simp[intOf];omega
        · have HT:=ξh ((HD1.out he).symm.trans HK.out)
          have heb:(x != y)=true:=by rw[bne_iff_ne];exact he
          clear he
          have HSG:=ξh (fun w'=>ξbr (x-y) w')
          rw[HT.out] at HSG
          have hsb:IntKind.i64.wrap (x-y)=x-y:=ξi _ (by omega)
          have hsb2:wrap64 (x-y)=x-y:=ξw _ (by omega)
          go_wp2_with fail
          go_quiet (fail)
          have HW2:=ξh (show Below w2.heap.size w2 (wr.drewN nq) from Dr.below ⟨nq,rfl⟩ HW.out)
          have e0:(wr.drewN nq).cell? ⟨b,off+k,none⟩=some (.int .i64 x):=e0
          have e1:(wr.drewN nq).cell? ⟨b2,off2+k,none⟩=some (.int .i64 y):=e1
          clear q0 q1 q2 q3 q4 q5
          obtain⟨q0,q1,q2,q3,q4,q5⟩:=HS.out _ HW2
          go_wp2_with fail
          generalize wr.drewN nq=w5 at *
          go_quiet ((go_at_call 263;exact Calls.quiet_of_same ((HSG.out _).mono fun _ _ h=>⟨h.1,h.2.symm⟩)))
          go_wp2
          go_ret
          exact⟨rfl,HBX.trans ((Dr.below ⟨_,rfl⟩ HW2).mono HBX.size)⟩
      · obtain rfl:k=m4:=by omega
        have HR0:=ξh ((HEN.out trivial).symm.trans HK.out)
        have HSG:=ξh (fun w'=>ξbr 0 w')
        rw[show sgnI 0=0 from rfl] at HSG
        go_wp2_with (go_at_call 263;refine(HSG.out _).mono ?_;rintro e w' ⟨rfl,rfl⟩)
        go_ret
        exact⟨by rw[←HR0.out];rfl,HBX.trans (HW.mono HBX.size)⟩
   · have hcb:(((m3:Int)-(m4:Int)) != 0)=true:=by rw[bne_iff_ne];omega
     have HR:=ξh (HCC.out hd hc)
     have HSG:=ξh (fun w'=>ξbr ((m3:Int)-(m4:Int)) w')
     rw[←HR.out] at HSG
     have hsb:IntKind.i64.wrap ((m3:Int)-(m4:Int))=(m3:Int)-(m4:Int):=ξi _ (by omega)
     clear hd hc
     go_wp2_with (go_at_call 263;refine(HSG.out _).mono ?_;rintro e w' ⟨rfl,rfl⟩)
     go_ret
     exact⟨rfl,HBX.trans (HB2.mono HBX.size)⟩
 · have hdb:(lx-ly != 0)=true:=by rw[bne_iff_ne];omega
   have HR:=ξh (HCL.out hd)
   have HSG:=ξh (fun w'=>ξbr (lx-ly) w')
   rw[←HR.out] at HSG
   clear hd
   go_wp2_with (go_at_call 263;refine(HSG.out _).mono ?_;rintro e w' ⟨rfl,rfl⟩)
   go_ret
   exact⟨rfl,HBX.trans (HB2.mono HBX.size)⟩
end Go.Proofs.YtofcicomhnkocaaGreat
