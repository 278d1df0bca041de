/- The law FnExactUpgradePeriods. (The law's walk is printed by genexact.py.) -/
import Derived.Test.YtofcicomhnkocaaGreatBp04
import Derived.Test.YtofcicomhnkocaaGreatBp05
import Derived.Test.YtofcicomhnkocaaGreatBp06
import Derived.Test.YtofcicomhnkocaaGreatBp30
set_option linter.unusedVariables false
namespace Go.Proofs.YtofcicomhnkocaaGreat
set_option maxHeartbeats 6400000
open Go.RowKit Go.Sort
set_option maxRecDepth 100000
theorem FnExactUpgradePeriods_walk (vn:Value) (n:Net) (vfs:Value) (fs:List Fmt) (vgs:Value) (gs:List Gro) (li:Int) (w:World) (hn:NetW w vn n) (hfs:Rwt w (flt 2 fmE fs) vfs) (hgs:Rwt w (flt 6 groE gs) vgs):
 Calls Tryz.prog 8 #[vn,vfs,vgs,.int .i64 li] w fun e w'=>e= .returned (.bool true)∧Below w.heap.size w w':=by
 have HWn:=Lib.hid (fun wx (hb:Below w.heap.size w wx)=>hn.behind hb)
 have hsm0n:∀i:Nat,(nmA n i).size≤totS n.ns:=fun i=>totS_mem n.ns i
 obtain⟨an1,an2,evn⟩:∃u1 u2,vn= .agg #[u1,u2]:=by obtain⟨u1,u2,e,_⟩:=hn;exact⟨u1,u2,e⟩
 subst evn
 clear hn
 have HWfs:=Lib.hid (fun wx (hb:Below w.heap.size w wx)=>hfs.behind hb)
 clear hfs
 have HWgs:=Lib.hid (fun wx (hb:Below w.heap.size w wx)=>hgs.behind hb)
 clear hgs
 have b0:=Below.refl w.heap.size w
 have b1:=b0.alloc b0.size (.cells #[an1,an2] 25)
 have kan:=heap_alloc_new w (.cells #[an1,an2] 25)
 have HAn:=Lib.hid kan
 have hz0:(w.alloc (.cells #[an1,an2] 25)).heap.size=w.heap.size+1:=by simp
 have B0:=Lib.hid b1
 have SZ0:=Lib.hid hz0
 clear hz0 b0 b1 kan
 go_enter Tryz.func8,Tryz.ntmps8
 go_wp2_with fail
 generalize (w.alloc (.cells #[an1,an2] 25))=w0 at *
 refine(szNetwork_any _ n 1048576 _ (HWn.out _ B0.out) (by omega) (by omega)).mono ?_
 unfold SzQ
 rintro e w1 ⟨r0,rfl,b,hr0⟩
 have B1:=Lib.hid (B0.out.trans (b.mono B0.out.size))
 have SZ1:=Lib.hid b.size
 have HAn:=Lib.hid (kept_o' HAn.out b)
 clear b
 by_cases hneg0:r0<0
 · have hnb:decide (r0<0)=true:=decide_eq_true hneg0
   clear hr0
   go_wp2
   go_ret
   exact⟨rfl,B1.out⟩
 have hnb0:decide (r0<0)=false:=decide_eq_false hneg0
 have hq0:((szN n:Nat):Int)≤1048576:=by omega
 have hrp0:0≤r0:=by omega
 have hrb0:r0≤1048576:=by omega
 clear hr0
 go_wp2_with fail
 refine(szFormatS_Q vfs fs r0 _ (HWfs.out _ B1.out) (by omega) (by omega)).mono ?_
 unfold SzQ
 rintro e w2 ⟨r1,rfl,b,hr1⟩
 have B2:=Lib.hid (B1.out.trans (b.mono B1.out.size))
 have SZ2:=Lib.hid b.size
 have HAn:=Lib.hid (kept_o' HAn.out b)
 clear b
 by_cases hneg1:r1<0
 · have hnb:decide (r1<0)=true:=decide_eq_true hneg1
   clear hr1
   go_wp2
   go_ret
   exact⟨rfl,B2.out⟩
 have hnb1:decide (r1<0)=false:=decide_eq_false hneg1
 have hq1:((fs.length:Nat):Int)≤r0:=by omega
 have hrp1:0≤r1:=by omega
 have hrb1:r1≤1048576:=by omega
 clear hr1
 go_wp2_with fail
 refine(szGrowthS_Q vgs gs r1 _ (HWgs.out _ B2.out) (by omega) (by omega)).mono ?_
 unfold SzQ
 rintro e w3 ⟨r2,rfl,b,hr2⟩
 have B3:=Lib.hid (B2.out.trans (b.mono B2.out.size))
 have SZ3:=Lib.hid b.size
 have HAn:=Lib.hid (kept_o' HAn.out b)
 clear b
 by_cases hneg2:r2<0
 · have hnb:decide (r2<0)=true:=decide_eq_true hneg2
   clear hr2
   go_wp2
   go_ret
   exact⟨rfl,B3.out⟩
 have hnb2:decide (r2<0)=false:=decide_eq_false hneg2
 have hq2:((gs.length:Nat):Int)≤r1:=by omega
 have hrp2:0≤r2:=by omega
 have hrb2:r2≤1048576:=by omega
 clear hr2
 have HZn:=Lib.hid (show n.ns.length≤1048576∧n.fs.length≤1048576∧NetSm n from⟨by have:szN n=n.ns.length+totS n.ns+n.fs.length:=rfl;omega,by have:szN n=n.ns.length+totS n.ns+n.fs.length:=rfl;omega,fun i=>Nat.le_trans (hsm0n i) (by have:szN n=n.ns.length+totS n.ns+n.fs.length:=rfl;omega)⟩)
 have HZfs:=Lib.hid (show fs.length≤1048576∧True from⟨by omega,trivial⟩)
 have HZgs:=Lib.hid (show gs.length≤1048576∧True from⟨by omega,trivial⟩)
 have HTOn:=Lib.hid (fun wx (hb:Below w.heap.size w wx)=>toNetwork_any _ n wx (HWn.out _ hb) (HZn.out).1 (HZn.out).2.1)
 have HTOfs:=Lib.hid (fun wx (hb:Below w.heap.size w wx)=>toFormatS_P vfs fs wx (HWfs.out _ hb) (HZfs.out).1)
 have HTOgs:=Lib.hid (fun wx (hb:Below w.heap.size w wx)=>toGrowthS_P vgs gs wx (HWgs.out _ hb) (HZgs.out).1)
 clear hq2
 clear hq1
 clear hq0
 have HRL:=Lib.hid (upL_len n fs gs li)
 have hsp:=fun v u u' wx h hf hg=>specUpg_any li v u u' n fs gs wx h hf hg
 have him:=fun v u u' wx h hf hg=>implUpg_any li v u u' n fs gs wx h hf hg
 unfold UpP at hsp him
 have HSP:=Lib.hid hsp
 have HIM:=Lib.hid him
 clear hsp him
 generalize upL n fs gs li=R at *
 generalize upK n fs gs li=ok at *
 have hne1:(ok != ok)=false:=by simp
 have c_n_0:=blkc HAn.out (j:=0) (u:=an1) rfl
 have c_n_1:=blkc HAn.out (j:=1) (u:=an2) rfl
 go_wp2_with fail
 clear c_n_0 c_n_1
 refine(HTOn.out _ B3.out).mono ?_
 unfold ToP
 rintro e w4 ⟨t1,f1,rfl,o1,n1,g1,b⟩
 have B4:=Lib.hid (B3.out.trans (b.mono B3.out.size))
 have SZ4:=Lib.hid b.size
 have HAn:=Lib.hid (kept_o' HAn.out b)
 obtain⟨t1a0,t1n0,t1c0,t1a1,t1n1,t1c1,rfl⟩:=o1.form
 have O1:=Lib.hid o1
 have HI1:=Lib.hid o1.lt
 have LO1:=Lib.hid g1
 have ND1:=Lib.hid n1
 clear b o1 g1 n1
 go_wp2_with fail
 refine(HTOfs.out _ B4.out).mono ?_
 unfold ToP
 rintro e w5 ⟨t2,f2,rfl,o2,n2,g2,b⟩
 have B5:=Lib.hid (B4.out.trans (b.mono B4.out.size))
 have SZ5:=Lib.hid b.size
 have O1:=Lib.hid (O1.out.behind b)
 have HAn:=Lib.hid (kept_o' HAn.out b)
 have O2:=Lib.hid o2
 have HI2:=Lib.hid o2.lt
 have LO2:=Lib.hid g2
 have ND2:=Lib.hid n2
 clear b o2 g2 n2
 go_wp2_with fail
 refine(HTOgs.out _ B5.out).mono ?_
 unfold ToP
 rintro e w6 ⟨t3,f3,rfl,o3,n3,g3,b⟩
 have B6:=Lib.hid (B5.out.trans (b.mono B5.out.size))
 have SZ6:=Lib.hid b.size
 have O1:=Lib.hid (O1.out.behind b)
 have O2:=Lib.hid (O2.out.behind b)
 have HAn:=Lib.hid (kept_o' HAn.out b)
 have O3:=Lib.hid o3
 have HI3:=Lib.hid o3.lt
 have LO3:=Lib.hid g3
 have ND3:=Lib.hid n3
 clear b o3 g3 n3
 go_wp2_with fail
 refine(HSP.out _ _ _ _ (O1.out.rd (HZn.out).2.2) O2.out.rd O3.out.rd).mono ?_
 rintro e w7 ⟨y1_0,rfl,o1_0,b⟩
 obtain⟨f4,u4,n4,g4⟩:=o1_0.open
 have B7:=Lib.hid (B6.out.trans (b.mono B6.out.size))
 have SZ7:=Lib.hid b.size
 have O1:=Lib.hid (O1.out.behind b)
 have O2:=Lib.hid (O2.out.behind b)
 have O3:=Lib.hid (O3.out.behind b)
 have HAn:=Lib.hid (kept_o' HAn.out b)
 have O4:=Lib.hid u4
 have HI4:=Lib.hid (fun k hk=>(g4 k hk).2)
 have LO4:=Lib.hid (fun k hk=>(g4 k hk).1)
 have ND4:=Lib.hid n4
 clear b u4 n4 g4 o1_0
 have c_n_0:=blkc HAn.out (j:=0) (u:=an1) rfl
 have c_n_1:=blkc HAn.out (j:=1) (u:=an2) rfl
 go_wp2_with fail
 clear c_n_0 c_n_1
 refine(HTOn.out _ B7.out).mono ?_
 unfold ToP
 rintro e w8 ⟨t5,f5,rfl,o5,n5,g5,b⟩
 have B8:=Lib.hid (B7.out.trans (b.mono B7.out.size))
 have SZ8:=Lib.hid b.size
 have O4:=Lib.hid (O4.out.behind b)
 have HAn:=Lib.hid (kept_o' HAn.out b)
 obtain⟨t5a0,t5n0,t5c0,t5a1,t5n1,t5c1,rfl⟩:=o5.form
 have O5:=Lib.hid o5
 have HI5:=Lib.hid o5.lt
 have LO5:=Lib.hid g5
 have ND5:=Lib.hid n5
 clear b o5 g5 n5
 have c_n_0:=blkc HAn.out (j:=0) (u:=an1) rfl
 have c_n_1:=blkc HAn.out (j:=1) (u:=an2) rfl
 have ne_n:¬w.heap.size=w8.heap.size:=by have h1:=(Array.getElem?_eq_some_iff.1 HAn.out).1;omega
 have b:=(Below.refl w8.heap.size w8).alloc (Nat.le_refl _) (.cells #[(.slice t5a0 t5n0 t5c0),(.slice t5a1 t5n1 t5c1)] 35)
 have kxn:=heap_alloc_new w8 (.cells #[(.slice t5a0 t5n0 t5c0),(.slice t5a1 t5n1 t5c1)] 35)
 have sx:=(show w8.heap.size<(w8.alloc (.cells #[(.slice t5a0 t5n0 t5c0),(.slice t5a1 t5n1 t5c1)] 35)).heap.size by simp)
 have NL4xn:=Lib.hid (show¬(w8.heap.size∈f4) from fun hk=>by have h1:=HI4.out _ hk;have s8:=SZ8.out;omega)
 have NL5xn:=Lib.hid (show¬(w8.heap.size∈f5) from fun hk=>by have h1:=HI5.out _ hk;skip;omega)
 have B9:=Lib.hid (B8.out.trans (b.mono B8.out.size))
 have SZ9:=Lib.hid b.size
 have O4:=Lib.hid (O4.out.behind b)
 have O5:=Lib.hid (O5.out.behind b)
 have HAn:=Lib.hid (kept_o' HAn.out b)
 have HXn:=Lib.hid kxn
 have SZX8:=Lib.hid sx
 clear b kxn sx
 go_wp2_with fail
 clear c_n_0 c_n_1 ne_n
 generalize w8.alloc (.cells #[(.slice t5a0 t5n0 t5c0),(.slice t5a1 t5n1 t5c1)] 35)=w9 at *
 refine(HTOfs.out _ B9.out).mono ?_
 unfold ToP
 rintro e w10 ⟨t6,f6,rfl,o6,n6,g6,b⟩
 have B10:=Lib.hid (B9.out.trans (b.mono B9.out.size))
 have SZ10:=Lib.hid b.size
 have O4:=Lib.hid (O4.out.behind b)
 have O5:=Lib.hid (O5.out.behind b)
 have HAn:=Lib.hid (kept_o' HAn.out b)
 have HXn:=Lib.hid (kept_o' HXn.out b)
 have O6:=Lib.hid o6
 have HI6:=Lib.hid o6.lt
 have LO6:=Lib.hid g6
 have ND6:=Lib.hid n6
 clear b o6 g6 n6
 have NL6xn:=Lib.hid (show¬(w8.heap.size∈f6) from fun hk=>by have h1:=LO6.out _ hk;have sx:=SZX8.out;skip;omega)
 go_wp2_with fail
 refine(HTOgs.out _ B10.out).mono ?_
 unfold ToP
 rintro e w11 ⟨t7,f7,rfl,o7,n7,g7,b⟩
 have B11:=Lib.hid (B10.out.trans (b.mono B10.out.size))
 have SZ11:=Lib.hid b.size
 have O4:=Lib.hid (O4.out.behind b)
 have O5:=Lib.hid (O5.out.behind b)
 have O6:=Lib.hid (O6.out.behind b)
 have HAn:=Lib.hid (kept_o' HAn.out b)
 have HXn:=Lib.hid (kept_o' HXn.out b)
 have O7:=Lib.hid o7
 have HI7:=Lib.hid o7.lt
 have LO7:=Lib.hid g7
 have ND7:=Lib.hid n7
 clear b o7 g7 n7
 have NL7xn:=Lib.hid (show¬(w8.heap.size∈f7) from fun hk=>by have h1:=LO7.out _ hk;have sx:=SZX8.out;have s10:=SZ10.out;omega)
 have c_xn_0:=blkc HXn.out (j:=0) (u:=(.slice t5a0 t5n0 t5c0)) rfl
 have c_xn_1:=blkc HXn.out (j:=1) (u:=(.slice t5a1 t5n1 t5c1)) rfl
 go_wp2_with fail
 clear c_xn_0 c_xn_1
 refine(HIM.out _ _ _ _ (O5.out.rd (HZn.out).2.2) O6.out.rd O7.out.rd).mono ?_
 rintro e w12 ⟨y2_0,rfl,o2_0,b⟩
 obtain⟨f8,u8,n8,g8⟩:=o2_0.open
 have B12:=Lib.hid (B11.out.trans (b.mono B11.out.size))
 have SZ12:=Lib.hid b.size
 have O4:=Lib.hid (O4.out.behind b)
 have O5:=Lib.hid (O5.out.behind b)
 have O6:=Lib.hid (O6.out.behind b)
 have O7:=Lib.hid (O7.out.behind b)
 have HAn:=Lib.hid (kept_o' HAn.out b)
 have HXn:=Lib.hid (kept_o' HXn.out b)
 have O8:=Lib.hid u8
 have HI8:=Lib.hid (fun k hk=>(g8 k hk).2)
 have LO8:=Lib.hid (fun k hk=>(g8 k hk).1)
 have ND8:=Lib.hid n8
 clear b u8 n8 g8 o2_0
 have NL8xn:=Lib.hid (show¬(w8.heap.size∈f8) from fun hk=>by have h1:=LO8.out _ hk;have sx:=SZX8.out;have s10:=SZ10.out;have s11:=SZ11.out;omega)
 go_wp2_with fail
 refine(eqIntS_same y2_0 y1_0 R _ O8.out.rd.toRd O4.out.rd.toRd).mono ?_
 rintro e w13 ⟨rfl,b⟩
 have B13:=Lib.hid (B12.out.trans (b.mono B12.out.size))
 have SZ13:=Lib.hid b.size
 have O4:=Lib.hid (O4.out.behind b)
 have O5:=Lib.hid (O5.out.behind b)
 have O6:=Lib.hid (O6.out.behind b)
 have O7:=Lib.hid (O7.out.behind b)
 have O8:=Lib.hid (O8.out.behind b)
 have HAn:=Lib.hid (kept_o' HAn.out b)
 have HXn:=Lib.hid (kept_o' HXn.out b)
 clear b
 have d_n_0:=blkc HAn.out (j:=0) (u:=an1) rfl
 have d_n_1:=blkc HAn.out (j:=1) (u:=an2) rfl
 have d_xn_0:=blkc HXn.out (j:=0) (u:=(.slice t5a0 t5n0 t5c0)) rfl
 have d_xn_1:=blkc HXn.out (j:=1) (u:=(.slice t5a1 t5n1 t5c1)) rfl
 go_wp2
 have dd0:w13.drew.cell? ⟨w.heap.size,0,none⟩=some an1:=d_n_0
 have dd1:w13.drew.cell? ⟨w.heap.size,1,none⟩=some an2:=d_n_1
 have dd2:w13.drew.cell? ⟨w8.heap.size,0,none⟩=some (.slice t5a0 t5n0 t5c0):=d_xn_0
 have dd3:w13.drew.cell? ⟨w8.heap.size,1,none⟩=some (.slice t5a1 t5n1 t5c1):=d_xn_1
 have b:=(Dr.refl w13).drew.below (Below.refl w13.heap.size w13)
 have B14:=Lib.hid (B13.out.trans (b.mono B13.out.size))
 have SZ14:=Lib.hid (show w13.heap.size≤w13.drew.heap.size from Nat.le_refl _)
 have O4:=Lib.hid (O4.out.behind b)
 have O5:=Lib.hid (O5.out.behind b)
 have O6:=Lib.hid (O6.out.behind b)
 have O7:=Lib.hid (O7.out.behind b)
 have O8:=Lib.hid (O8.out.behind b)
 have HAn:=Lib.hid (kept_o' HAn.out b)
 have HXn:=Lib.hid (kept_o' HXn.out b)
 clear b d_n_0 d_n_1 d_xn_0 d_xn_1
 go_region_held3 (fun w'=>w'.cell? ⟨w.heap.size,0,none⟩=some an1∧w'.cell? ⟨w.heap.size,1,none⟩=some an2∧w'.cell? ⟨w8.heap.size,0,none⟩=some (.slice t5a0 t5n0 t5c0)∧w'.cell? ⟨w8.heap.size,1,none⟩=some (.slice t5a1 t5n1 t5c1)) (first | (with_reducible exact⟨dd0,dd1,dd2,dd3⟩) | (with_reducible exact⟨e_n_0,e_n_1,e_xn_0,e_xn_1⟩) | (with_reducible exact⟨h_n_0,h_n_1,h_xn_0,h_xn_1⟩)) (first
  | (go_at_call 16;refine(HTOn.out _ B14.out).mono ?_;unfold ToP;rintro e w15 ⟨t9,f9,rfl,o9,n9,g9,b⟩;have B15:=Lib.hid (B14.out.trans (b.mono B14.out.size));have SZ15:=Lib.hid b.size;have O4:=Lib.hid (O4.out.behind b);have O5:=Lib.hid (O5.out.behind b);have O6:=Lib.hid (O6.out.behind b);have O7:=Lib.hid (O7.out.behind b);have O8:=Lib.hid (O8.out.behind b);have HAn:=Lib.hid (kept_o' HAn.out b);have HXn:=Lib.hid (kept_o' HXn.out b);obtain⟨t9a0,t9n0,t9c0,t9a1,t9n1,t9c1,rfl⟩:=o9.form;have O9:=Lib.hid o9;clear b o9 g9 n9;have e_n_0:=blkc HAn.out (j:=0) (u:=an1) rfl;have e_n_1:=blkc HAn.out (j:=1) (u:=an2) rfl;have e_xn_0:=blkc HXn.out (j:=0) (u:=(.slice t5a0 t5n0 t5c0)) rfl;have e_xn_1:=blkc HXn.out (j:=1) (u:=(.slice t5a1 t5n1 t5c1)) rfl)
  | (go_at_call 20;refine(eqNetwork_same _ _ n _ (O5.out.rd (HZn.out).2.2) (O9.out.rd (HZn.out).2.2)).mono ?_;rintro e w16 ⟨rfl,b⟩;have B16:=Lib.hid (B15.out.trans (b.mono B15.out.size));have SZ16:=Lib.hid b.size;have O4:=Lib.hid (O4.out.behind b);have O5:=Lib.hid (O5.out.behind b);have O6:=Lib.hid (O6.out.behind b);have O7:=Lib.hid (O7.out.behind b);have O8:=Lib.hid (O8.out.behind b);have HAn:=Lib.hid (kept_o' HAn.out b);have HXn:=Lib.hid (kept_o' HXn.out b);clear b;have h_n_0:=blkc HAn.out (j:=0) (u:=an1) rfl;have h_n_1:=blkc HAn.out (j:=1) (u:=an2) rfl;have h_xn_0:=blkc HXn.out (j:=0) (u:=(.slice t5a0 t5n0 t5c0)) rfl;have h_xn_1:=blkc HXn.out (j:=1) (u:=(.slice t5a1 t5n1 t5c1)) rfl))
 clear e_n_0 e_n_1 e_xn_0 e_xn_1 h_n_0 h_n_1 h_xn_0 h_xn_1 dd0 dd1 dd2 dd3
 go_wp2_with fail
 refine(HTOfs.out _ B16.out).mono ?_
 unfold ToP
 rintro e w17 ⟨t10,f10,rfl,o10,n10,g10,b⟩
 have B17:=Lib.hid (B16.out.trans (b.mono B16.out.size))
 have SZ17:=Lib.hid b.size
 have O4:=Lib.hid (O4.out.behind b)
 have O5:=Lib.hid (O5.out.behind b)
 have O6:=Lib.hid (O6.out.behind b)
 have O7:=Lib.hid (O7.out.behind b)
 have O8:=Lib.hid (O8.out.behind b)
 have HAn:=Lib.hid (kept_o' HAn.out b)
 have HXn:=Lib.hid (kept_o' HXn.out b)
 have O10:=Lib.hid o10
 have HI10:=Lib.hid o10.lt
 have LO10:=Lib.hid g10
 have ND10:=Lib.hid n10
 clear b o10 g10 n10
 go_wp2_with fail
 refine(eqFormatS_same t6 t10 fs _ O6.out.rd O10.out.rd).mono ?_
 rintro e w18 ⟨rfl,b⟩
 have B18:=Lib.hid (B17.out.trans (b.mono B17.out.size))
 have SZ18:=Lib.hid b.size
 have O4:=Lib.hid (O4.out.behind b)
 have O5:=Lib.hid (O5.out.behind b)
 have O6:=Lib.hid (O6.out.behind b)
 have O7:=Lib.hid (O7.out.behind b)
 have O8:=Lib.hid (O8.out.behind b)
 have HAn:=Lib.hid (kept_o' HAn.out b)
 have HXn:=Lib.hid (kept_o' HXn.out b)
 clear b
 go_wp2_with fail
 refine(HTOgs.out _ B18.out).mono ?_
 unfold ToP
 rintro e w19 ⟨t11,f11,rfl,o11,n11,g11,b⟩
 have B19:=Lib.hid (B18.out.trans (b.mono B18.out.size))
 have SZ19:=Lib.hid b.size
 have O4:=Lib.hid (O4.out.behind b)
 have O5:=Lib.hid (O5.out.behind b)
 have O6:=Lib.hid (O6.out.behind b)
 have O7:=Lib.hid (O7.out.behind b)
 have O8:=Lib.hid (O8.out.behind b)
 have HAn:=Lib.hid (kept_o' HAn.out b)
 have HXn:=Lib.hid (kept_o' HXn.out b)
 have O11:=Lib.hid o11
 have HI11:=Lib.hid o11.lt
 have LO11:=Lib.hid g11
 have ND11:=Lib.hid n11
 clear b o11 g11 n11
 go_wp2_with fail
 refine(eqGrowthS_same t7 t11 gs _ O7.out.rd O11.out.rd).mono ?_
 rintro e w20 ⟨rfl,b⟩
 have B20:=Lib.hid (B19.out.trans (b.mono B19.out.size))
 have SZ20:=Lib.hid b.size
 have O4:=Lib.hid (O4.out.behind b)
 have O5:=Lib.hid (O5.out.behind b)
 have O6:=Lib.hid (O6.out.behind b)
 have O7:=Lib.hid (O7.out.behind b)
 have O8:=Lib.hid (O8.out.behind b)
 have HAn:=Lib.hid (kept_o' HAn.out b)
 have HXn:=Lib.hid (kept_o' HXn.out b)
 clear b
 obtain⟨k0,hk0⟩:∃m:Nat,m=1+mkN n:=⟨_,rfl⟩
 have hkp0:0<k0∧k0≤67108864:=by have:mkN n=n.ns.length+4*n.fs.length:=rfl;have:=(HZn.out).1;have:=(HZn.out).2.1;omega
 have c_xn_0:=blkc HXn.out (j:=0) (u:=(.slice t5a0 t5n0 t5c0)) rfl
 have c_xn_1:=blkc HXn.out (j:=1) (u:=(.slice t5a1 t5n1 t5c1)) rfl
 go_wp2_with fail
 clear c_xn_0 c_xn_1
 refine(markNetwork_any _ n f5 1 _ O5.out ND5.out (HZn.out).1 (HZn.out).2.1 (by omega) (by omega)).mono ?_
 rw[←hk0]
 rintro e w21 ⟨rfl,-,wr⟩
 have B21:=Lib.hid (wr.below B20.out B20.out.size (fun k hk=>by have h1:=LO5.out k hk;have s0:=SZ0.out;have s1:=SZ1.out;have s2:=SZ2.out;have s3:=SZ3.out;have s4:=SZ4.out;have s5:=SZ5.out;have s6:=SZ6.out;have s7:=SZ7.out;omega))
 have SZ21:=Lib.hid wr.size
 have O4:=Lib.hid (O4.out.apart wr (fun k hk hk2=>by have h1:=HI4.out k hk;have h2:=LO5.out k hk2;skip;omega))
 have O6:=Lib.hid (O6.out.apart wr (fun k hk hk2=>by have h1:=HI5.out k hk2;have h2:=LO6.out k hk;have s9:=SZ9.out;omega))
 have O7:=Lib.hid (O7.out.apart wr (fun k hk hk2=>by have h1:=HI5.out k hk2;have h2:=LO7.out k hk;have s9:=SZ9.out;have s10:=SZ10.out;omega))
 have O8:=Lib.hid (O8.out.apart wr (fun k hk hk2=>by have h1:=HI5.out k hk2;have h2:=LO8.out k hk;have s9:=SZ9.out;have s10:=SZ10.out;have s11:=SZ11.out;omega))
 have HAn:=Lib.hid ((wr.block _ (Array.getElem?_eq_some_iff.1 HAn.out).1 (fun hk=>by have h1:=LO5.out _ hk;have s0:=SZ0.out;have s1:=SZ1.out;have s2:=SZ2.out;have s3:=SZ3.out;have s4:=SZ4.out;have s5:=SZ5.out;have s6:=SZ6.out;have s7:=SZ7.out;omega)).trans HAn.out)
 have HXn:=Lib.hid ((wr.block _ (Array.getElem?_eq_some_iff.1 HXn.out).1 (fun hk=>by exact NL5xn.out hk)).trans HXn.out)
 clear wr hk0
 obtain⟨k1,hk1⟩:∃m:Nat,m=k0+2*fs.length:=⟨_,rfl⟩
 have hkp1:0<k1∧k1≤134217728:=by have:=(HZfs.out).1;omega
 go_wp2_with fail
 refine(markFormatS_N t6 fs f6 k0 _ O6.out ND6.out (HZfs.out).1 (by omega) (by omega)).mono ?_
 rw[←hk1]
 rintro e w22 ⟨rfl,-,wr⟩
 have B22:=Lib.hid (wr.below B21.out B21.out.size (fun k hk=>by have h1:=LO6.out k hk;have s0:=SZ0.out;have s1:=SZ1.out;have s2:=SZ2.out;have s3:=SZ3.out;have s4:=SZ4.out;have s5:=SZ5.out;have s6:=SZ6.out;have s7:=SZ7.out;have s8:=SZ8.out;have s9:=SZ9.out;omega))
 have SZ22:=Lib.hid wr.size
 have O4:=Lib.hid (O4.out.apart wr (fun k hk hk2=>by have h1:=HI4.out k hk;have h2:=LO6.out k hk2;have s8:=SZ8.out;have s9:=SZ9.out;omega))
 have O7:=Lib.hid (O7.out.apart wr (fun k hk hk2=>by have h1:=HI6.out k hk2;have h2:=LO7.out k hk;skip;omega))
 have O8:=Lib.hid (O8.out.apart wr (fun k hk hk2=>by have h1:=HI6.out k hk2;have h2:=LO8.out k hk;have s11:=SZ11.out;omega))
 have HAn:=Lib.hid ((wr.block _ (Array.getElem?_eq_some_iff.1 HAn.out).1 (fun hk=>by have h1:=LO6.out _ hk;have s0:=SZ0.out;have s1:=SZ1.out;have s2:=SZ2.out;have s3:=SZ3.out;have s4:=SZ4.out;have s5:=SZ5.out;have s6:=SZ6.out;have s7:=SZ7.out;have s8:=SZ8.out;have s9:=SZ9.out;omega)).trans HAn.out)
 have HXn:=Lib.hid ((wr.block _ (Array.getElem?_eq_some_iff.1 HXn.out).1 (fun hk=>by exact NL6xn.out hk)).trans HXn.out)
 clear wr hk1
 obtain⟨k2,hk2⟩:∃m:Nat,m=k1+6*gs.length:=⟨_,rfl⟩
 have hkp2:0<k2∧k2≤201326592:=by have:=(HZgs.out).1;omega
 go_wp2_with fail
 refine(markGrowthS_N t7 gs f7 k1 _ O7.out ND7.out (HZgs.out).1 (by omega) (by omega)).mono ?_
 rw[←hk2]
 rintro e w23 ⟨rfl,-,wr⟩
 have B23:=Lib.hid (wr.below B22.out B22.out.size (fun k hk=>by have h1:=LO7.out k hk;have s0:=SZ0.out;have s1:=SZ1.out;have s2:=SZ2.out;have s3:=SZ3.out;have s4:=SZ4.out;have s5:=SZ5.out;have s6:=SZ6.out;have s7:=SZ7.out;have s8:=SZ8.out;have s9:=SZ9.out;have s10:=SZ10.out;omega))
 have SZ23:=Lib.hid wr.size
 have O4:=Lib.hid (O4.out.apart wr (fun k hk hk2=>by have h1:=HI4.out k hk;have h2:=LO7.out k hk2;have s8:=SZ8.out;have s9:=SZ9.out;have s10:=SZ10.out;omega))
 have O8:=Lib.hid (O8.out.apart wr (fun k hk hk2=>by have h1:=HI7.out k hk2;have h2:=LO8.out k hk;skip;omega))
 have HAn:=Lib.hid ((wr.block _ (Array.getElem?_eq_some_iff.1 HAn.out).1 (fun hk=>by have h1:=LO7.out _ hk;have s0:=SZ0.out;have s1:=SZ1.out;have s2:=SZ2.out;have s3:=SZ3.out;have s4:=SZ4.out;have s5:=SZ5.out;have s6:=SZ6.out;have s7:=SZ7.out;have s8:=SZ8.out;have s9:=SZ9.out;have s10:=SZ10.out;omega)).trans HAn.out)
 have HXn:=Lib.hid ((wr.block _ (Array.getElem?_eq_some_iff.1 HXn.out).1 (fun hk=>by exact NL7xn.out hk)).trans HXn.out)
 clear wr hk2
 have hkn:¬(k2:Int)<0:=by omega
 have hknb:decide ((k2:Int)<0)=false:=decide_eq_false hkn
 go_wp2_with fail
 refine(eqIntS_same y2_0 y1_0 R _ O8.out.rd.toRd O4.out.rd.toRd).mono ?_
 rintro e w24 ⟨rfl,b⟩
 have B24:=Lib.hid (B23.out.trans (b.mono B23.out.size))
 have SZ24:=Lib.hid b.size
 have O4:=Lib.hid (O4.out.behind b)
 have O8:=Lib.hid (O8.out.behind b)
 have HAn:=Lib.hid (kept_o' HAn.out b)
 clear b
 clear hkn hknb
 obtain⟨m0,hm0⟩:∃m:Nat,m=1+R.length:=⟨_,rfl⟩
 have hmb0:1≤m0:=by omega
 go_wp2_with fail
 refine(markIntS_N y2_0 R f8 1 _ O8.out (by omega) (by omega) (by have:=HRL.out;omega)).mono ?_
 rw[←hm0]
 rintro e w25 ⟨rfl,om,wr⟩
 have B25:=Lib.hid (wr.below B24.out B24.out.size (fun k hk=>by have h1:=LO8.out k hk;have s0:=SZ0.out;have s1:=SZ1.out;have s2:=SZ2.out;have s3:=SZ3.out;have s4:=SZ4.out;have s5:=SZ5.out;have s6:=SZ6.out;have s7:=SZ7.out;have s8:=SZ8.out;have s9:=SZ9.out;have s10:=SZ10.out;have s11:=SZ11.out;omega))
 have SZ25:=Lib.hid wr.size
 have O4:=Lib.hid (O4.out.apart wr (fun k hk hk2=>by have h1:=HI4.out k hk;have h2:=LO8.out k hk2;have s8:=SZ8.out;have s9:=SZ9.out;have s10:=SZ10.out;have s11:=SZ11.out;omega))
 have HAn:=Lib.hid ((wr.block _ (Array.getElem?_eq_some_iff.1 HAn.out).1 (fun hk=>by have h1:=LO8.out _ hk;have s0:=SZ0.out;have s1:=SZ1.out;have s2:=SZ2.out;have s3:=SZ3.out;have s4:=SZ4.out;have s5:=SZ5.out;have s6:=SZ6.out;have s7:=SZ7.out;have s8:=SZ8.out;have s9:=SZ9.out;have s10:=SZ10.out;have s11:=SZ11.out;omega)).trans HAn.out)
 have O8:=Lib.hid om
 have HM0:=Lib.hid hm0
 clear wr hm0 om
 have hmn:(m0 != m0)=false:=by simp
 have hmi:((m0:Int) != (m0:Int))=false:=by simp
 go_wp2_with fail
 refine(heldIntS_N y2_0 1 R.length _ O8.out.rd.toRd (by omega) (by have:=HRL.out;omega)).mono ?_
 rw[←HM0.out]
 rintro e w26 ⟨rfl,b⟩
 have B26:=Lib.hid (B25.out.trans (b.mono B25.out.size))
 have SZ26:=Lib.hid b.size
 have O4:=Lib.hid (O4.out.behind b)
 have O8:=Lib.hid (O8.out.behind b)
 have HAn:=Lib.hid (kept_o' HAn.out b)
 clear b
 have hqn0:¬(m0:Int)<0:=by omega
 have hqb0:decide ((m0:Int)<0)=false:=decide_eq_false hqn0
 clear hqn0 hqb0
 have c_n_0:=blkc HAn.out (j:=0) (u:=an1) rfl
 have c_n_1:=blkc HAn.out (j:=1) (u:=an2) rfl
 go_wp2_with fail
 clear c_n_0 c_n_1
 refine(HTOn.out _ B26.out).mono ?_
 unfold ToP
 rintro e w27 ⟨t12,f12,rfl,o12,n12,g12,b⟩
 have B27:=Lib.hid (B26.out.trans (b.mono B26.out.size))
 have SZ27:=Lib.hid b.size
 have O4:=Lib.hid (O4.out.behind b)
 have O8:=Lib.hid (O8.out.behind b)
 have HAn:=Lib.hid (kept_o' HAn.out b)
 obtain⟨t12a0,t12n0,t12c0,t12a1,t12n1,t12c1,rfl⟩:=o12.form
 have O12:=Lib.hid o12
 have HI12:=Lib.hid o12.lt
 have LO12:=Lib.hid g12
 have ND12:=Lib.hid n12
 clear b o12 g12 n12
 go_wp2_with fail
 refine(HTOfs.out _ B27.out).mono ?_
 unfold ToP
 rintro e w28 ⟨t13,f13,rfl,o13,n13,g13,b⟩
 have B28:=Lib.hid (B27.out.trans (b.mono B27.out.size))
 have SZ28:=Lib.hid b.size
 have O4:=Lib.hid (O4.out.behind b)
 have O8:=Lib.hid (O8.out.behind b)
 have O12:=Lib.hid (O12.out.behind b)
 have HAn:=Lib.hid (kept_o' HAn.out b)
 have O13:=Lib.hid o13
 have HI13:=Lib.hid o13.lt
 have LO13:=Lib.hid g13
 have ND13:=Lib.hid n13
 clear b o13 g13 n13
 go_wp2_with fail
 refine(HTOgs.out _ B28.out).mono ?_
 unfold ToP
 rintro e w29 ⟨t14,f14,rfl,o14,n14,g14,b⟩
 have B29:=Lib.hid (B28.out.trans (b.mono B28.out.size))
 have SZ29:=Lib.hid b.size
 have O4:=Lib.hid (O4.out.behind b)
 have O8:=Lib.hid (O8.out.behind b)
 have O12:=Lib.hid (O12.out.behind b)
 have O13:=Lib.hid (O13.out.behind b)
 have HAn:=Lib.hid (kept_o' HAn.out b)
 have O14:=Lib.hid o14
 have HI14:=Lib.hid o14.lt
 have LO14:=Lib.hid g14
 have ND14:=Lib.hid n14
 clear b o14 g14 n14
 go_wp2_with fail
 refine(HIM.out _ _ _ _ (O12.out.rd (HZn.out).2.2) O13.out.rd O14.out.rd).mono ?_
 rintro e w30 ⟨y3_0,rfl,o3_0,b⟩
 obtain⟨f15,u15,n15,g15⟩:=o3_0.open
 have B30:=Lib.hid (B29.out.trans (b.mono B29.out.size))
 have SZ30:=Lib.hid b.size
 have O4:=Lib.hid (O4.out.behind b)
 have O8:=Lib.hid (O8.out.behind b)
 have O12:=Lib.hid (O12.out.behind b)
 have O13:=Lib.hid (O13.out.behind b)
 have O14:=Lib.hid (O14.out.behind b)
 have HAn:=Lib.hid (kept_o' HAn.out b)
 have O15:=Lib.hid u15
 have HI15:=Lib.hid (fun k hk=>(g15 k hk).2)
 have LO15:=Lib.hid (fun k hk=>(g15 k hk).1)
 have ND15:=Lib.hid n15
 clear b u15 n15 g15 o3_0
 go_wp2_with fail
 refine(eqIntS_same y3_0 y1_0 R _ O15.out.rd.toRd O4.out.rd.toRd).mono ?_
 rintro e w31 ⟨rfl,b⟩
 have B31:=Lib.hid (B30.out.trans (b.mono B30.out.size))
 have SZ31:=Lib.hid b.size
 have O4:=Lib.hid (O4.out.behind b)
 have O8:=Lib.hid (O8.out.behind b)
 have O15:=Lib.hid (O15.out.behind b)
 have HAn:=Lib.hid (kept_o' HAn.out b)
 clear b
 go_wp2_with fail
 refine(heldIntS_N y2_0 1 R.length _ O8.out.rd.toRd (by omega) (by have:=HRL.out;omega)).mono ?_
 rw[←HM0.out]
 rintro e w32 ⟨rfl,b⟩
 have B32:=Lib.hid (B31.out.trans (b.mono B31.out.size))
 have SZ32:=Lib.hid b.size
 have O4:=Lib.hid (O4.out.behind b)
 have O8:=Lib.hid (O8.out.behind b)
 have O15:=Lib.hid (O15.out.behind b)
 have HAn:=Lib.hid (kept_o' HAn.out b)
 clear b
 have hqn0:¬(m0:Int)<0:=by omega
 have hqb0:decide ((m0:Int)<0)=false:=decide_eq_false hqn0
 go_wp2
 go_ret
 exact⟨rfl,B32.out⟩
end Go.Proofs.YtofcicomhnkocaaGreat
