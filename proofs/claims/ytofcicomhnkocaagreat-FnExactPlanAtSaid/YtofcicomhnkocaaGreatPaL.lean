/- The law FnExactPlanAt. (The law's walk is printed by genexact.py.) -/
import Derived.Test.YtofcicomhnkocaaGreatAls
import Derived.Test.YtofcicomhnkocaaGreatBq29
import Derived.Test.YtofcicomhnkocaaGreatBq04
import Derived.Test.YtofcicomhnkocaaGreatBq28
set_option linter.unusedVariables false
namespace Go.Proofs.YtofcicomhnkocaaGreat
set_option maxHeartbeats 6400000
open Go.RowKit Go.Sort
set_option maxRecDepth 100000
theorem FnExactPlanAt_walk (vn:Value) (n:Net) (vfs:Value) (fs:List Fmt) (vgs:Value) (gs:List Gro) (pp:Int) (w:World) (hn:NetW w vn n) (hfs:Rwt w (flt 2 fmE fs) vfs) (hgs:Rwt w (flt 6 groE gs) vgs):
 Calls Tryz.prog 11 #[vn,vfs,vgs,.int .i64 pp] w fun e w'=>e= .returned (.bool true)∧Below w.heap.size w w':=by
 have HWn:=ξh (fun wx (hb:Below w.heap.size w wx)=>hn.behind hb)
 have hsm0n:∀i:Nat,(nmA n i).size≤totS n.ns:=fun i=>totS_mem n.ns i
 obtain⟨an1,an2,evn⟩:∃u1 u2,vn= .agg #[u1,u2]:=by obtain⟨u1,u2,e,_⟩:=hn;exact⟨u1,u2,e⟩
 subst evn
 clear hn
 have HWfs:=ξh (fun wx (hb:Below w.heap.size w wx)=>hfs.behind hb)
 clear hfs
 have HWgs:=ξh (fun wx (hb:Below w.heap.size w wx)=>hgs.behind hb)
 clear hgs
 have b0:=ξb w.heap.size w
 have b1:=b0.alloc b0.size (.cells #[an1,an2] 25)
 have kan:=ξn w (.cells #[an1,an2] 25)
 have HAn:=ξh kan
 have hz0:(w.alloc (.cells #[an1,an2] 25)).heap.size=w.heap.size+1:=by simp
 have B0:=ξh b1
 have SZ0:=ξh hz0
 clear hz0 b0 b1 kan
 go_enter Tryz.func11,Tryz.ntmps11
 go_wp2_with fail
 generalize (w.alloc (.cells #[an1,an2] 25))=w0 at *
 refine(szNetwork_any _ n 1048576 _ (HWn.out _ B0.out) (by omega) (by omega)).mono ?_
 unfold SzQ
 rintro e w1 ⟨r0,rfl,b,hr0⟩
 have B1:=ξh (B0.out.trans (b.mono B0.out.size))
 have SZ1:=ξh b.size
 have HAn:=ξh (kept_o' HAn.out b)
 clear b
 by_cases hneg0:r0<0
 · have hnb:decide (r0<0)=true:=ξt hneg0
   clear hr0
   go_wp2
   go_ret
   exact⟨rfl,B1.out⟩
 have hnb0:decide (r0<0)=false:=ξf hneg0
 have hq0:((szN n:Nat):Int)≤1048576:=by omega
 have hrp0:0≤r0:=by omega
 have hrb0:r0≤1048576:=by omega
 clear hr0
 go_wp2_with fail
 refine(szFormatS_Q vfs fs r0 _ (HWfs.out _ B1.out) (by omega) (by omega)).mono ?_
 unfold SzQ
 rintro e w2 ⟨r1,rfl,b,hr1⟩
 have B2:=ξh (B1.out.trans (b.mono B1.out.size))
 have SZ2:=ξh b.size
 have HAn:=ξh (kept_o' HAn.out b)
 clear b
 by_cases hneg1:r1<0
 · have hnb:decide (r1<0)=true:=ξt hneg1
   clear hr1
   go_wp2
   go_ret
   exact⟨rfl,B2.out⟩
 have hnb1:decide (r1<0)=false:=ξf hneg1
 have hq1:((fs.length:Nat):Int)≤r0:=by omega
 have hrp1:0≤r1:=by omega
 have hrb1:r1≤1048576:=by omega
 clear hr1
 go_wp2_with fail
 refine(szGrowthS_Q vgs gs r1 _ (HWgs.out _ B2.out) (by omega) (by omega)).mono ?_
 unfold SzQ
 rintro e w3 ⟨r2,rfl,b,hr2⟩
 have B3:=ξh (B2.out.trans (b.mono B2.out.size))
 have SZ3:=ξh b.size
 have HAn:=ξh (kept_o' HAn.out b)
 clear b
 by_cases hneg2:r2<0
 · have hnb:decide (r2<0)=true:=ξt hneg2
   clear hr2
   go_wp2
   go_ret
   exact⟨rfl,B3.out⟩
 have hnb2:decide (r2<0)=false:=ξf hneg2
 have hq2:((gs.length:Nat):Int)≤r1:=by omega
 have hrp2:0≤r2:=by omega
 have hrb2:r2≤1048576:=by omega
 clear hr2
 have HZn:=ξh (show n.ns.length≤1048576∧n.fs.length≤1048576∧NetSm n from⟨by have:szN n=n.ns.length+totS n.ns+n.fs.length:=rfl;omega,by have:szN n=n.ns.length+totS n.ns+n.fs.length:=rfl;omega,fun i=>ξs (hsm0n i) (by have:szN n=n.ns.length+totS n.ns+n.fs.length:=rfl;omega)⟩)
 have HZfs:=ξh (show fs.length≤1048576∧True from⟨by omega,trivial⟩)
 have HZgs:=ξh (show gs.length≤1048576∧True from⟨by omega,trivial⟩)
 have HTOn:=ξh (fun wx (hb:Below w.heap.size w wx)=>toNetwork_any _ n wx (HWn.out _ hb) (HZn.out).1 (HZn.out).2.1)
 have HTOfs:=ξh (fun wx (hb:Below w.heap.size w wx)=>toFormatS_P vfs fs wx (HWfs.out _ hb) (HZfs.out).1)
 have HTOgs:=ξh (fun wx (hb:Below w.heap.size w wx)=>toGrowthS_P vgs gs wx (HWgs.out _ hb) (HZgs.out).1)
 clear hq2
 clear hq1
 clear hq0
 have hrb:=plaR_bd (n:=n) (fs:=fs) (gs:=gs) (p:=pp) (HZn.out).2.2
 have hsp:=fun v u u' wx h hf hg=>specPla_any pp v u u' n fs gs wx h hf hg
 have him:=fun v u u' wx h hf hg=>implPla_any pp v u u' n fs gs wx h hf hg
 unfold PlaP at hsp him
 unfold PlnB at hrb
 have HRB:=ξh hrb
 have HSP:=ξh hsp
 have HIM:=ξh him
 clear hsp him hrb
 generalize plaR n fs gs pp=P at *
 generalize plaK n fs gs pp=ok at *
 have hne1:(ok != ok)=false:=by simp
 have c_n_0:=blkc HAn.out (j:=0) (u:=an1) rfl
 have c_n_1:=blkc HAn.out (j:=1) (u:=an2) rfl
 go_wp2_with fail
 clear c_n_0 c_n_1
 refine(HTOn.out _ B3.out).mono ?_
 unfold ToP
 rintro e w4 ⟨t1,f1,rfl,o1,n1,g1,b⟩
 have B4:=ξh (B3.out.trans (b.mono B3.out.size))
 have SZ4:=ξh b.size
 have HAn:=ξh (kept_o' HAn.out b)
 obtain⟨t1a0,t1n0,t1c0,t1a1,t1n1,t1c1,rfl⟩:=o1.form
 have O1:=ξh o1
 have HI1:=ξh o1.lt
 have LO1:=ξh g1
 have ND1:=ξh n1
 clear b o1 g1 n1
 go_wp2_with fail
 refine(HTOfs.out _ B4.out).mono ?_
 unfold ToP
 rintro e w5 ⟨t2,f2,rfl,o2,n2,g2,b⟩
 have B5:=ξh (B4.out.trans (b.mono B4.out.size))
 have SZ5:=ξh b.size
 have O1:=ξh (O1.out.behind b)
 have HAn:=ξh (kept_o' HAn.out b)
 have O2:=ξh o2
 have HI2:=ξh o2.lt
 have LO2:=ξh g2
 have ND2:=ξh n2
 clear b o2 g2 n2
 go_wp2_with fail
 refine(HTOgs.out _ B5.out).mono ?_
 unfold ToP
 rintro e w6 ⟨t3,f3,rfl,o3,n3,g3,b⟩
 have B6:=ξh (B5.out.trans (b.mono B5.out.size))
 have SZ6:=ξh b.size
 have O1:=ξh (O1.out.behind b)
 have O2:=ξh (O2.out.behind b)
 have HAn:=ξh (kept_o' HAn.out b)
 have O3:=ξh o3
 have HI3:=ξh o3.lt
 have LO3:=ξh g3
 have ND3:=ξh n3
 clear b o3 g3 n3
 go_wp2_with fail
 refine(HSP.out _ _ _ _ (O1.out.rd (HZn.out).2.2) O2.out.rd O3.out.rd).mono ?_
 rintro e w7 ⟨y1,f4,rfl,u4,n4,g4,b⟩
 obtain⟨r1a0,r1n0,r1c0,r1a1,r1n1,r1c1,r1a2,r1n2,r1c2,ev⟩:=u4.form
 have ev2:y1= .agg #[(.slice r1a0 r1n0 r1c0),(.slice r1a1 r1n1 r1c1),(.slice r1a2 r1n2 r1c2)]:=ev
 clear ev
 subst ev2
 have B7:=ξh (B6.out.trans (b.mono B6.out.size))
 have SZ7:=ξh b.size
 have O1:=ξh (O1.out.behind b)
 have O2:=ξh (O2.out.behind b)
 have O3:=ξh (O3.out.behind b)
 have HAn:=ξh (kept_o' HAn.out b)
 have O4:=ξh u4
 have HI4:=ξh (fun k hk=>(g4 k hk).2)
 have LO4:=ξh (fun k hk=>(g4 k hk).1)
 have ND4:=ξh n4
 clear b u4 n4 g4
 have c_n_0:=blkc HAn.out (j:=0) (u:=an1) rfl
 have c_n_1:=blkc HAn.out (j:=1) (u:=an2) rfl
 have ne_n:¬w.heap.size=w7.heap.size:=by have h1:=(ξa HAn.out).1;omega
 have b:=(ξb w7.heap.size w7).alloc (ξr _) (.cells #[(.slice r1a0 r1n0 r1c0),(.slice r1a1 r1n1 r1c1),(.slice r1a2 r1n2 r1c2)] 75)
 have kx:=ξn w7 (.cells #[(.slice r1a0 r1n0 r1c0),(.slice r1a1 r1n1 r1c1),(.slice r1a2 r1n2 r1c2)] 75)
 have sx:=(show w7.heap.size<(w7.alloc (.cells #[(.slice r1a0 r1n0 r1c0),(.slice r1a1 r1n1 r1c1),(.slice r1a2 r1n2 r1c2)] 75)).heap.size by simp)
 have NL1w0v:=ξh (show¬(w7.heap.size∈f1) from fun hk=>by have h1:=HI1.out _ hk;have s5:=SZ5.out;have s6:=SZ6.out;have s7:=SZ7.out;omega)
 have NL2w0v:=ξh (show¬(w7.heap.size∈f2) from fun hk=>by have h1:=HI2.out _ hk;have s6:=SZ6.out;have s7:=SZ7.out;omega)
 have NL3w0v:=ξh (show¬(w7.heap.size∈f3) from fun hk=>by have h1:=HI3.out _ hk;have s7:=SZ7.out;omega)
 have NL4w0v:=ξh (show¬(w7.heap.size∈f4) from fun hk=>by have h1:=HI4.out _ hk;skip;omega)
 have B8:=ξh (B7.out.trans (b.mono B7.out.size))
 have SZ8:=ξh b.size
 have O1:=ξh (O1.out.behind b)
 have O2:=ξh (O2.out.behind b)
 have O3:=ξh (O3.out.behind b)
 have O4:=ξh (O4.out.behind b)
 have HAn:=ξh (kept_o' HAn.out b)
 have d_n_0:=blkc HAn.out (j:=0) (u:=an1) rfl
 have d_n_1:=blkc HAn.out (j:=1) (u:=an2) rfl
 have HXw0v:=ξh kx
 have SZX7:=ξh sx
 clear b kx sx
 go_wp2_with fail
 clear c_n_0 c_n_1 ne_n d_n_0 d_n_1
 generalize w7.alloc (.cells #[(.slice r1a0 r1n0 r1c0),(.slice r1a1 r1n1 r1c1),(.slice r1a2 r1n2 r1c2)] 75)=w8 at *
 refine(HTOn.out _ B8.out).mono ?_
 unfold ToP
 rintro e w9 ⟨t5,f5,rfl,o5,n5,g5,b⟩
 have B9:=ξh (B8.out.trans (b.mono B8.out.size))
 have SZ9:=ξh b.size
 have O4:=ξh (O4.out.behind b)
 have HAn:=ξh (kept_o' HAn.out b)
 have HXw0v:=ξh (kept_o' HXw0v.out b)
 obtain⟨t5a0,t5n0,t5c0,t5a1,t5n1,t5c1,rfl⟩:=o5.form
 have O5:=ξh o5
 have HI5:=ξh o5.lt
 have LO5:=ξh g5
 have ND5:=ξh n5
 clear b o5 g5 n5
 have NL5w0v:=ξh (show¬(w7.heap.size∈f5) from fun hk=>by have h1:=LO5.out _ hk;have sx:=SZX7.out;skip;omega)
 have c_n_0:=blkc HAn.out (j:=0) (u:=an1) rfl
 have c_n_1:=blkc HAn.out (j:=1) (u:=an2) rfl
 have c_w0v_0:=blkc HXw0v.out (j:=0) (u:=(.slice r1a0 r1n0 r1c0)) rfl
 have c_w0v_1:=blkc HXw0v.out (j:=1) (u:=(.slice r1a1 r1n1 r1c1)) rfl
 have c_w0v_2:=blkc HXw0v.out (j:=2) (u:=(.slice r1a2 r1n2 r1c2)) rfl
 have ne_n:¬w.heap.size=w9.heap.size:=by have h1:=(ξa HAn.out).1;omega
 have ne_w0v:¬w7.heap.size=w9.heap.size:=by have h1:=(ξa HXw0v.out).1;omega
 have b:=(ξb w9.heap.size w9).alloc (ξr _) (.cells #[(.slice t5a0 t5n0 t5c0),(.slice t5a1 t5n1 t5c1)] 35)
 have kxn:=ξn w9 (.cells #[(.slice t5a0 t5n0 t5c0),(.slice t5a1 t5n1 t5c1)] 35)
 have sx:=(show w9.heap.size<(w9.alloc (.cells #[(.slice t5a0 t5n0 t5c0),(.slice t5a1 t5n1 t5c1)] 35)).heap.size by simp)
 have NL4xn:=ξh (show¬(w9.heap.size∈f4) from fun hk=>by have h1:=HI4.out _ hk;have s8:=SZ8.out;have s9:=SZ9.out;omega)
 have NL5xn:=ξh (show¬(w9.heap.size∈f5) from fun hk=>by have h1:=HI5.out _ hk;skip;omega)
 have B10:=ξh (B9.out.trans (b.mono B9.out.size))
 have SZ10:=ξh b.size
 have O4:=ξh (O4.out.behind b)
 have O5:=ξh (O5.out.behind b)
 have HAn:=ξh (kept_o' HAn.out b)
 have HXw0v:=ξh (kept_o' HXw0v.out b)
 have HXn:=ξh kxn
 have SZX9:=ξh sx
 clear b kxn sx
 go_wp2_with fail
 clear c_n_0 c_n_1 c_w0v_0 c_w0v_1 c_w0v_2 ne_n ne_w0v
 generalize w9.alloc (.cells #[(.slice t5a0 t5n0 t5c0),(.slice t5a1 t5n1 t5c1)] 35)=w10 at *
 refine(HTOfs.out _ B10.out).mono ?_
 unfold ToP
 rintro e w11 ⟨t6,f6,rfl,o6,n6,g6,b⟩
 have B11:=ξh (B10.out.trans (b.mono B10.out.size))
 have SZ11:=ξh b.size
 have O4:=ξh (O4.out.behind b)
 have O5:=ξh (O5.out.behind b)
 have HAn:=ξh (kept_o' HAn.out b)
 have HXw0v:=ξh (kept_o' HXw0v.out b)
 have HXn:=ξh (kept_o' HXn.out b)
 have O6:=ξh o6
 have HI6:=ξh o6.lt
 have LO6:=ξh g6
 have ND6:=ξh n6
 clear b o6 g6 n6
 have NL6w0v:=ξh (show¬(w7.heap.size∈f6) from fun hk=>by have h1:=LO6.out _ hk;have sx:=SZX7.out;have s9:=SZ9.out;have s10:=SZ10.out;omega)
 have NL6xn:=ξh (show¬(w9.heap.size∈f6) from fun hk=>by have h1:=LO6.out _ hk;have sx:=SZX9.out;skip;omega)
 go_wp2_with fail
 refine(HTOgs.out _ B11.out).mono ?_
 unfold ToP
 rintro e w12 ⟨t7,f7,rfl,o7,n7,g7,b⟩
 have B12:=ξh (B11.out.trans (b.mono B11.out.size))
 have SZ12:=ξh b.size
 have O4:=ξh (O4.out.behind b)
 have O5:=ξh (O5.out.behind b)
 have O6:=ξh (O6.out.behind b)
 have HAn:=ξh (kept_o' HAn.out b)
 have HXw0v:=ξh (kept_o' HXw0v.out b)
 have HXn:=ξh (kept_o' HXn.out b)
 have O7:=ξh o7
 have HI7:=ξh o7.lt
 have LO7:=ξh g7
 have ND7:=ξh n7
 clear b o7 g7 n7
 have NL7w0v:=ξh (show¬(w7.heap.size∈f7) from fun hk=>by have h1:=LO7.out _ hk;have sx:=SZX7.out;have s9:=SZ9.out;have s10:=SZ10.out;have s11:=SZ11.out;omega)
 have NL7xn:=ξh (show¬(w9.heap.size∈f7) from fun hk=>by have h1:=LO7.out _ hk;have sx:=SZX9.out;have s11:=SZ11.out;omega)
 have c_w0v_0:=blkc HXw0v.out (j:=0) (u:=(.slice r1a0 r1n0 r1c0)) rfl
 have c_w0v_1:=blkc HXw0v.out (j:=1) (u:=(.slice r1a1 r1n1 r1c1)) rfl
 have c_w0v_2:=blkc HXw0v.out (j:=2) (u:=(.slice r1a2 r1n2 r1c2)) rfl
 have c_xn_0:=blkc HXn.out (j:=0) (u:=(.slice t5a0 t5n0 t5c0)) rfl
 have c_xn_1:=blkc HXn.out (j:=1) (u:=(.slice t5a1 t5n1 t5c1)) rfl
 go_wp2_with fail
 clear c_w0v_0 c_w0v_1 c_w0v_2 c_xn_0 c_xn_1
 refine(HIM.out _ _ _ _ (O5.out.rd (HZn.out).2.2) O6.out.rd O7.out.rd).mono ?_
 rintro e w13 ⟨y2,f8,rfl,u8,n8,g8,b⟩
 obtain⟨r2a0,r2n0,r2c0,r2a1,r2n1,r2c1,r2a2,r2n2,r2c2,ev⟩:=u8.form
 have ev2:y2= .agg #[(.slice r2a0 r2n0 r2c0),(.slice r2a1 r2n1 r2c1),(.slice r2a2 r2n2 r2c2)]:=ev
 clear ev
 subst ev2
 have B13:=ξh (B12.out.trans (b.mono B12.out.size))
 have SZ13:=ξh b.size
 have O4:=ξh (O4.out.behind b)
 have O5:=ξh (O5.out.behind b)
 have O6:=ξh (O6.out.behind b)
 have O7:=ξh (O7.out.behind b)
 have HAn:=ξh (kept_o' HAn.out b)
 have HXw0v:=ξh (kept_o' HXw0v.out b)
 have HXn:=ξh (kept_o' HXn.out b)
 have O8:=ξh u8
 have HI8:=ξh (fun k hk=>(g8 k hk).2)
 have LO8:=ξh (fun k hk=>(g8 k hk).1)
 have ND8:=ξh n8
 clear b u8 n8 g8
 have NL8w0v:=ξh (show¬(w7.heap.size∈f8) from fun hk=>by have h1:=LO8.out _ hk;have sx:=SZX7.out;have s9:=SZ9.out;have s10:=SZ10.out;have s11:=SZ11.out;have s12:=SZ12.out;omega)
 have NL8xn:=ξh (show¬(w9.heap.size∈f8) from fun hk=>by have h1:=LO8.out _ hk;have sx:=SZX9.out;have s11:=SZ11.out;have s12:=SZ12.out;omega)
 have c_n_0:=blkc HAn.out (j:=0) (u:=an1) rfl
 have c_n_1:=blkc HAn.out (j:=1) (u:=an2) rfl
 have c_w0v_0:=blkc HXw0v.out (j:=0) (u:=(.slice r1a0 r1n0 r1c0)) rfl
 have c_w0v_1:=blkc HXw0v.out (j:=1) (u:=(.slice r1a1 r1n1 r1c1)) rfl
 have c_w0v_2:=blkc HXw0v.out (j:=2) (u:=(.slice r1a2 r1n2 r1c2)) rfl
 have c_xn_0:=blkc HXn.out (j:=0) (u:=(.slice t5a0 t5n0 t5c0)) rfl
 have c_xn_1:=blkc HXn.out (j:=1) (u:=(.slice t5a1 t5n1 t5c1)) rfl
 have ne_n:¬w.heap.size=w13.heap.size:=by have h1:=(ξa HAn.out).1;omega
 have ne_w0v:¬w7.heap.size=w13.heap.size:=by have h1:=(ξa HXw0v.out).1;omega
 have ne_xn:¬w9.heap.size=w13.heap.size:=by have h1:=(ξa HXn.out).1;omega
 have b:=(ξb w13.heap.size w13).alloc (ξr _) (.cells #[(.slice r2a0 r2n0 r2c0),(.slice r2a1 r2n1 r2c1),(.slice r2a2 r2n2 r2c2)] 75)
 have kx:=ξn w13 (.cells #[(.slice r2a0 r2n0 r2c0),(.slice r2a1 r2n1 r2c1),(.slice r2a2 r2n2 r2c2)] 75)
 have sx:=(show w13.heap.size<(w13.alloc (.cells #[(.slice r2a0 r2n0 r2c0),(.slice r2a1 r2n1 r2c1),(.slice r2a2 r2n2 r2c2)] 75)).heap.size by simp)
 have NL4g0v:=ξh (show¬(w13.heap.size∈f4) from fun hk=>by have h1:=HI4.out _ hk;have s8:=SZ8.out;have s9:=SZ9.out;have s10:=SZ10.out;have s11:=SZ11.out;have s12:=SZ12.out;have s13:=SZ13.out;omega)
 have NL5g0v:=ξh (show¬(w13.heap.size∈f5) from fun hk=>by have h1:=HI5.out _ hk;have s10:=SZ10.out;have s11:=SZ11.out;have s12:=SZ12.out;have s13:=SZ13.out;omega)
 have NL6g0v:=ξh (show¬(w13.heap.size∈f6) from fun hk=>by have h1:=HI6.out _ hk;have s12:=SZ12.out;have s13:=SZ13.out;omega)
 have NL7g0v:=ξh (show¬(w13.heap.size∈f7) from fun hk=>by have h1:=HI7.out _ hk;have s13:=SZ13.out;omega)
 have NL8g0v:=ξh (show¬(w13.heap.size∈f8) from fun hk=>by have h1:=HI8.out _ hk;skip;omega)
 have B14:=ξh (B13.out.trans (b.mono B13.out.size))
 have SZ14:=ξh b.size
 have O4:=ξh (O4.out.behind b)
 have O5:=ξh (O5.out.behind b)
 have O6:=ξh (O6.out.behind b)
 have O7:=ξh (O7.out.behind b)
 have O8:=ξh (O8.out.behind b)
 have HAn:=ξh (kept_o' HAn.out b)
 have HXw0v:=ξh (kept_o' HXw0v.out b)
 have HXn:=ξh (kept_o' HXn.out b)
 have d_n_0:=blkc HAn.out (j:=0) (u:=an1) rfl
 have d_n_1:=blkc HAn.out (j:=1) (u:=an2) rfl
 have d_w0v_0:=blkc HXw0v.out (j:=0) (u:=(.slice r1a0 r1n0 r1c0)) rfl
 have d_w0v_1:=blkc HXw0v.out (j:=1) (u:=(.slice r1a1 r1n1 r1c1)) rfl
 have d_w0v_2:=blkc HXw0v.out (j:=2) (u:=(.slice r1a2 r1n2 r1c2)) rfl
 have d_xn_0:=blkc HXn.out (j:=0) (u:=(.slice t5a0 t5n0 t5c0)) rfl
 have d_xn_1:=blkc HXn.out (j:=1) (u:=(.slice t5a1 t5n1 t5c1)) rfl
 have HXg0v:=ξh kx
 have SZX13:=ξh sx
 clear b kx sx
 go_wp2_with fail
 clear c_n_0 c_n_1 c_w0v_0 c_w0v_1 c_w0v_2 c_xn_0 c_xn_1 ne_n ne_w0v ne_xn d_n_0 d_n_1 d_w0v_0 d_w0v_1 d_w0v_2 d_xn_0 d_xn_1
 generalize w13.alloc (.cells #[(.slice r2a0 r2n0 r2c0),(.slice r2a1 r2n1 r2c1),(.slice r2a2 r2n2 r2c2)] 75)=w14 at *
 refine(eqPlan_same _ _ P _ (O8.out.rd HRB.out.1) (O4.out.rd HRB.out.1)).mono ?_
 rintro e w15 ⟨rfl,b⟩
 have B15:=ξh (B14.out.trans (b.mono B14.out.size))
 have SZ15:=ξh b.size
 have O4:=ξh (O4.out.behind b)
 have O5:=ξh (O5.out.behind b)
 have O6:=ξh (O6.out.behind b)
 have O7:=ξh (O7.out.behind b)
 have O8:=ξh (O8.out.behind b)
 have HAn:=ξh (kept_o' HAn.out b)
 have HXw0v:=ξh (kept_o' HXw0v.out b)
 have HXn:=ξh (kept_o' HXn.out b)
 have HXg0v:=ξh (kept_o' HXg0v.out b)
 clear b
 have d_n_0:=blkc HAn.out (j:=0) (u:=an1) rfl
 have d_n_1:=blkc HAn.out (j:=1) (u:=an2) rfl
 have d_xn_0:=blkc HXn.out (j:=0) (u:=(.slice t5a0 t5n0 t5c0)) rfl
 have d_xn_1:=blkc HXn.out (j:=1) (u:=(.slice t5a1 t5n1 t5c1)) rfl
 go_wp2
 have dd0:w15.drew.cell? ⟨w.heap.size,0,none⟩=some an1:=d_n_0
 have dd1:w15.drew.cell? ⟨w.heap.size,1,none⟩=some an2:=d_n_1
 have dd2:w15.drew.cell? ⟨w9.heap.size,0,none⟩=some (.slice t5a0 t5n0 t5c0):=d_xn_0
 have dd3:w15.drew.cell? ⟨w9.heap.size,1,none⟩=some (.slice t5a1 t5n1 t5c1):=d_xn_1
 have b:=(Dr.refl w15).drew.below (ξb w15.heap.size w15)
 have B16:=ξh (B15.out.trans (b.mono B15.out.size))
 have SZ16:=ξh (show w15.heap.size≤w15.drew.heap.size from ξr _)
 have O4:=ξh (O4.out.behind b)
 have O5:=ξh (O5.out.behind b)
 have O6:=ξh (O6.out.behind b)
 have O7:=ξh (O7.out.behind b)
 have O8:=ξh (O8.out.behind b)
 have HAn:=ξh (kept_o' HAn.out b)
 have HXw0v:=ξh (kept_o' HXw0v.out b)
 have HXn:=ξh (kept_o' HXn.out b)
 have HXg0v:=ξh (kept_o' HXg0v.out b)
 clear b d_n_0 d_n_1 d_xn_0 d_xn_1
 go_region_held3 (fun w'=>w'.cell? ⟨w.heap.size,0,none⟩=some an1∧w'.cell? ⟨w.heap.size,1,none⟩=some an2∧w'.cell? ⟨w9.heap.size,0,none⟩=some (.slice t5a0 t5n0 t5c0)∧w'.cell? ⟨w9.heap.size,1,none⟩=some (.slice t5a1 t5n1 t5c1)) (first | (with_reducible exact⟨dd0,dd1,dd2,dd3⟩) | (with_reducible exact⟨e_n_0,e_n_1,e_xn_0,e_xn_1⟩) | (with_reducible exact⟨h_n_0,h_n_1,h_xn_0,h_xn_1⟩)) (first
  | (go_at_call 16;refine(HTOn.out _ B16.out).mono ?_;unfold ToP;rintro e w17 ⟨t9,f9,rfl,o9,n9,g9,b⟩;have B17:=ξh (B16.out.trans (b.mono B16.out.size));have SZ17:=ξh b.size;have O4:=ξh (O4.out.behind b);have O5:=ξh (O5.out.behind b);have O6:=ξh (O6.out.behind b);have O7:=ξh (O7.out.behind b);have O8:=ξh (O8.out.behind b);have HAn:=ξh (kept_o' HAn.out b);have HXw0v:=ξh (kept_o' HXw0v.out b);have HXn:=ξh (kept_o' HXn.out b);have HXg0v:=ξh (kept_o' HXg0v.out b);obtain⟨t9a0,t9n0,t9c0,t9a1,t9n1,t9c1,rfl⟩:=o9.form;have O9:=ξh o9;clear b o9 g9 n9;have e_n_0:=blkc HAn.out (j:=0) (u:=an1) rfl;have e_n_1:=blkc HAn.out (j:=1) (u:=an2) rfl;have e_xn_0:=blkc HXn.out (j:=0) (u:=(.slice t5a0 t5n0 t5c0)) rfl;have e_xn_1:=blkc HXn.out (j:=1) (u:=(.slice t5a1 t5n1 t5c1)) rfl)
  | (go_at_call 20;refine(eqNetwork_same _ _ n _ (O5.out.rd (HZn.out).2.2) (O9.out.rd (HZn.out).2.2)).mono ?_;rintro e w18 ⟨rfl,b⟩;have B18:=ξh (B17.out.trans (b.mono B17.out.size));have SZ18:=ξh b.size;have O4:=ξh (O4.out.behind b);have O5:=ξh (O5.out.behind b);have O6:=ξh (O6.out.behind b);have O7:=ξh (O7.out.behind b);have O8:=ξh (O8.out.behind b);have HAn:=ξh (kept_o' HAn.out b);have HXw0v:=ξh (kept_o' HXw0v.out b);have HXn:=ξh (kept_o' HXn.out b);have HXg0v:=ξh (kept_o' HXg0v.out b);clear b;have h_n_0:=blkc HAn.out (j:=0) (u:=an1) rfl;have h_n_1:=blkc HAn.out (j:=1) (u:=an2) rfl;have h_xn_0:=blkc HXn.out (j:=0) (u:=(.slice t5a0 t5n0 t5c0)) rfl;have h_xn_1:=blkc HXn.out (j:=1) (u:=(.slice t5a1 t5n1 t5c1)) rfl))
 clear e_n_0 e_n_1 e_xn_0 e_xn_1 h_n_0 h_n_1 h_xn_0 h_xn_1 dd0 dd1 dd2 dd3
 go_wp2_with fail
 refine(HTOfs.out _ B18.out).mono ?_
 unfold ToP
 rintro e w19 ⟨t10,f10,rfl,o10,n10,g10,b⟩
 have B19:=ξh (B18.out.trans (b.mono B18.out.size))
 have SZ19:=ξh b.size
 have O4:=ξh (O4.out.behind b)
 have O5:=ξh (O5.out.behind b)
 have O6:=ξh (O6.out.behind b)
 have O7:=ξh (O7.out.behind b)
 have O8:=ξh (O8.out.behind b)
 have HAn:=ξh (kept_o' HAn.out b)
 have HXw0v:=ξh (kept_o' HXw0v.out b)
 have HXn:=ξh (kept_o' HXn.out b)
 have HXg0v:=ξh (kept_o' HXg0v.out b)
 have O10:=ξh o10
 have HI10:=ξh o10.lt
 have LO10:=ξh g10
 have ND10:=ξh n10
 clear b o10 g10 n10
 go_wp2_with fail
 refine(eqFormatS_same t6 t10 fs _ O6.out.rd O10.out.rd).mono ?_
 rintro e w20 ⟨rfl,b⟩
 have B20:=ξh (B19.out.trans (b.mono B19.out.size))
 have SZ20:=ξh b.size
 have O4:=ξh (O4.out.behind b)
 have O5:=ξh (O5.out.behind b)
 have O6:=ξh (O6.out.behind b)
 have O7:=ξh (O7.out.behind b)
 have O8:=ξh (O8.out.behind b)
 have HAn:=ξh (kept_o' HAn.out b)
 have HXw0v:=ξh (kept_o' HXw0v.out b)
 have HXn:=ξh (kept_o' HXn.out b)
 have HXg0v:=ξh (kept_o' HXg0v.out b)
 clear b
 go_wp2_with fail
 refine(HTOgs.out _ B20.out).mono ?_
 unfold ToP
 rintro e w21 ⟨t11,f11,rfl,o11,n11,g11,b⟩
 have B21:=ξh (B20.out.trans (b.mono B20.out.size))
 have SZ21:=ξh b.size
 have O4:=ξh (O4.out.behind b)
 have O5:=ξh (O5.out.behind b)
 have O6:=ξh (O6.out.behind b)
 have O7:=ξh (O7.out.behind b)
 have O8:=ξh (O8.out.behind b)
 have HAn:=ξh (kept_o' HAn.out b)
 have HXw0v:=ξh (kept_o' HXw0v.out b)
 have HXn:=ξh (kept_o' HXn.out b)
 have HXg0v:=ξh (kept_o' HXg0v.out b)
 have O11:=ξh o11
 have HI11:=ξh o11.lt
 have LO11:=ξh g11
 have ND11:=ξh n11
 clear b o11 g11 n11
 go_wp2_with fail
 refine(eqGrowthS_same t7 t11 gs _ O7.out.rd O11.out.rd).mono ?_
 rintro e w22 ⟨rfl,b⟩
 have B22:=ξh (B21.out.trans (b.mono B21.out.size))
 have SZ22:=ξh b.size
 have O4:=ξh (O4.out.behind b)
 have O5:=ξh (O5.out.behind b)
 have O6:=ξh (O6.out.behind b)
 have O7:=ξh (O7.out.behind b)
 have O8:=ξh (O8.out.behind b)
 have HAn:=ξh (kept_o' HAn.out b)
 have HXw0v:=ξh (kept_o' HXw0v.out b)
 have HXn:=ξh (kept_o' HXn.out b)
 have HXg0v:=ξh (kept_o' HXg0v.out b)
 clear b
 obtain⟨k0,hk0⟩:∃m:Nat,m=1+mkN n:=⟨_,rfl⟩
 have hkp0:0<k0∧k0≤67108864:=by have:mkN n=n.ns.length+4*n.fs.length:=rfl;have:=(HZn.out).1;have:=(HZn.out).2.1;omega
 have c_xn_0:=blkc HXn.out (j:=0) (u:=(.slice t5a0 t5n0 t5c0)) rfl
 have c_xn_1:=blkc HXn.out (j:=1) (u:=(.slice t5a1 t5n1 t5c1)) rfl
 go_wp2_with fail
 clear c_xn_0 c_xn_1
 refine(markNetwork_any _ n f5 1 _ O5.out ND5.out (HZn.out).1 (HZn.out).2.1 (by omega) (by omega)).mono ?_
 rw[←hk0]
 rintro e w23 ⟨rfl,-,wr⟩
 have B23:=ξh (wr.below B22.out B22.out.size (fun k hk=>by have h1:=LO5.out k hk;have s0:=SZ0.out;have s1:=SZ1.out;have s2:=SZ2.out;have s3:=SZ3.out;have s4:=SZ4.out;have s5:=SZ5.out;have s6:=SZ6.out;have s7:=SZ7.out;have s8:=SZ8.out;omega))
 have SZ23:=ξh wr.size
 have O4:=ξh (O4.out.apart wr (fun k hk hk2=>by have h1:=HI4.out k hk;have h2:=LO5.out k hk2;have s8:=SZ8.out;omega))
 have O6:=ξh (O6.out.apart wr (fun k hk hk2=>by have h1:=HI5.out k hk2;have h2:=LO6.out k hk;have s10:=SZ10.out;omega))
 have O7:=ξh (O7.out.apart wr (fun k hk hk2=>by have h1:=HI5.out k hk2;have h2:=LO7.out k hk;have s10:=SZ10.out;have s11:=SZ11.out;omega))
 have O8:=ξh (O8.out.apart wr (fun k hk hk2=>by have h1:=HI5.out k hk2;have h2:=LO8.out k hk;have s10:=SZ10.out;have s11:=SZ11.out;have s12:=SZ12.out;omega))
 have HAn:=ξh ((wr.block _ (ξa HAn.out).1 (fun hk=>by have h1:=LO5.out _ hk;have s0:=SZ0.out;have s1:=SZ1.out;have s2:=SZ2.out;have s3:=SZ3.out;have s4:=SZ4.out;have s5:=SZ5.out;have s6:=SZ6.out;have s7:=SZ7.out;have s8:=SZ8.out;omega)).trans HAn.out)
 have HXw0v:=ξh ((wr.block _ (ξa HXw0v.out).1 (fun hk=>by exact NL5w0v.out hk)).trans HXw0v.out)
 have HXn:=ξh ((wr.block _ (ξa HXn.out).1 (fun hk=>by exact NL5xn.out hk)).trans HXn.out)
 have HXg0v:=ξh ((wr.block _ (ξa HXg0v.out).1 (fun hk=>by exact NL5g0v.out hk)).trans HXg0v.out)
 clear wr hk0
 obtain⟨k1,hk1⟩:∃m:Nat,m=k0+2*fs.length:=⟨_,rfl⟩
 have hkp1:0<k1∧k1≤134217728:=by have:=(HZfs.out).1;omega
 go_wp2_with fail
 refine(markFormatS_N t6 fs f6 k0 _ O6.out ND6.out (HZfs.out).1 (by omega) (by omega)).mono ?_
 rw[←hk1]
 rintro e w24 ⟨rfl,-,wr⟩
 have B24:=ξh (wr.below B23.out B23.out.size (fun k hk=>by have h1:=LO6.out k hk;have s0:=SZ0.out;have s1:=SZ1.out;have s2:=SZ2.out;have s3:=SZ3.out;have s4:=SZ4.out;have s5:=SZ5.out;have s6:=SZ6.out;have s7:=SZ7.out;have s8:=SZ8.out;have s9:=SZ9.out;have s10:=SZ10.out;omega))
 have SZ24:=ξh wr.size
 have O4:=ξh (O4.out.apart wr (fun k hk hk2=>by have h1:=HI4.out k hk;have h2:=LO6.out k hk2;have s8:=SZ8.out;have s9:=SZ9.out;have s10:=SZ10.out;omega))
 have O7:=ξh (O7.out.apart wr (fun k hk hk2=>by have h1:=HI6.out k hk2;have h2:=LO7.out k hk;skip;omega))
 have O8:=ξh (O8.out.apart wr (fun k hk hk2=>by have h1:=HI6.out k hk2;have h2:=LO8.out k hk;have s12:=SZ12.out;omega))
 have HAn:=ξh ((wr.block _ (ξa HAn.out).1 (fun hk=>by have h1:=LO6.out _ hk;have s0:=SZ0.out;have s1:=SZ1.out;have s2:=SZ2.out;have s3:=SZ3.out;have s4:=SZ4.out;have s5:=SZ5.out;have s6:=SZ6.out;have s7:=SZ7.out;have s8:=SZ8.out;have s9:=SZ9.out;have s10:=SZ10.out;omega)).trans HAn.out)
 have HXw0v:=ξh ((wr.block _ (ξa HXw0v.out).1 (fun hk=>by exact NL6w0v.out hk)).trans HXw0v.out)
 have HXn:=ξh ((wr.block _ (ξa HXn.out).1 (fun hk=>by exact NL6xn.out hk)).trans HXn.out)
 have HXg0v:=ξh ((wr.block _ (ξa HXg0v.out).1 (fun hk=>by exact NL6g0v.out hk)).trans HXg0v.out)
 clear wr hk1
 obtain⟨k2,hk2⟩:∃m:Nat,m=k1+6*gs.length:=⟨_,rfl⟩
 have hkp2:0<k2∧k2≤201326592:=by have:=(HZgs.out).1;omega
 go_wp2_with fail
 refine(markGrowthS_N t7 gs f7 k1 _ O7.out ND7.out (HZgs.out).1 (by omega) (by omega)).mono ?_
 rw[←hk2]
 rintro e w25 ⟨rfl,-,wr⟩
 have B25:=ξh (wr.below B24.out B24.out.size (fun k hk=>by have h1:=LO7.out k hk;have s0:=SZ0.out;have s1:=SZ1.out;have s2:=SZ2.out;have s3:=SZ3.out;have s4:=SZ4.out;have s5:=SZ5.out;have s6:=SZ6.out;have s7:=SZ7.out;have s8:=SZ8.out;have s9:=SZ9.out;have s10:=SZ10.out;have s11:=SZ11.out;omega))
 have SZ25:=ξh wr.size
 have O4:=ξh (O4.out.apart wr (fun k hk hk2=>by have h1:=HI4.out k hk;have h2:=LO7.out k hk2;have s8:=SZ8.out;have s9:=SZ9.out;have s10:=SZ10.out;have s11:=SZ11.out;omega))
 have O8:=ξh (O8.out.apart wr (fun k hk hk2=>by have h1:=HI7.out k hk2;have h2:=LO8.out k hk;skip;omega))
 have HAn:=ξh ((wr.block _ (ξa HAn.out).1 (fun hk=>by have h1:=LO7.out _ hk;have s0:=SZ0.out;have s1:=SZ1.out;have s2:=SZ2.out;have s3:=SZ3.out;have s4:=SZ4.out;have s5:=SZ5.out;have s6:=SZ6.out;have s7:=SZ7.out;have s8:=SZ8.out;have s9:=SZ9.out;have s10:=SZ10.out;have s11:=SZ11.out;omega)).trans HAn.out)
 have HXw0v:=ξh ((wr.block _ (ξa HXw0v.out).1 (fun hk=>by exact NL7w0v.out hk)).trans HXw0v.out)
 have HXn:=ξh ((wr.block _ (ξa HXn.out).1 (fun hk=>by exact NL7xn.out hk)).trans HXn.out)
 have HXg0v:=ξh ((wr.block _ (ξa HXg0v.out).1 (fun hk=>by exact NL7g0v.out hk)).trans HXg0v.out)
 clear wr hk2
 have hkn:¬(k2:Int)<0:=by omega
 have hknb:decide ((k2:Int)<0)=false:=ξf hkn
 have c_g0v_0:=blkc HXg0v.out (j:=0) (u:=(.slice r2a0 r2n0 r2c0)) rfl
 have c_g0v_1:=blkc HXg0v.out (j:=1) (u:=(.slice r2a1 r2n1 r2c1)) rfl
 have c_g0v_2:=blkc HXg0v.out (j:=2) (u:=(.slice r2a2 r2n2 r2c2)) rfl
 have c_w0v_0:=blkc HXw0v.out (j:=0) (u:=(.slice r1a0 r1n0 r1c0)) rfl
 have c_w0v_1:=blkc HXw0v.out (j:=1) (u:=(.slice r1a1 r1n1 r1c1)) rfl
 have c_w0v_2:=blkc HXw0v.out (j:=2) (u:=(.slice r1a2 r1n2 r1c2)) rfl
 go_wp2_with fail
 clear c_g0v_0 c_g0v_1 c_g0v_2 c_w0v_0 c_w0v_1 c_w0v_2
 refine(eqPlan_same _ _ P _ (O8.out.rd HRB.out.1) (O4.out.rd HRB.out.1)).mono ?_
 rintro e w26 ⟨rfl,b⟩
 have B26:=ξh (B25.out.trans (b.mono B25.out.size))
 have SZ26:=ξh b.size
 have O4:=ξh (O4.out.behind b)
 have O8:=ξh (O8.out.behind b)
 have HAn:=ξh (kept_o' HAn.out b)
 have HXw0v:=ξh (kept_o' HXw0v.out b)
 have HXg0v:=ξh (kept_o' HXg0v.out b)
 clear b
 clear hkn hknb
 obtain⟨m0,hm0⟩:∃m:Nat,m=1+mkP P:=⟨_,rfl⟩
 have hmb0:1≤m0:=by omega
 have c_g0v_0:=blkc HXg0v.out (j:=0) (u:=(.slice r2a0 r2n0 r2c0)) rfl
 have c_g0v_1:=blkc HXg0v.out (j:=1) (u:=(.slice r2a1 r2n1 r2c1)) rfl
 have c_g0v_2:=blkc HXg0v.out (j:=2) (u:=(.slice r2a2 r2n2 r2c2)) rfl
 go_wp2_with fail
 clear c_g0v_0 c_g0v_1 c_g0v_2
 refine(markPlan_any _ P f8 1 _ O8.out ND8.out HRB.out.2.1 HRB.out.2.2.1 HRB.out.2.2.2.1 (by omega) (by omega)).mono ?_
 rw[←hm0]
 rintro e w27 ⟨rfl,om,wr⟩
 have B27:=ξh (wr.below B26.out B26.out.size (fun k hk=>by have h1:=LO8.out k hk;have s0:=SZ0.out;have s1:=SZ1.out;have s2:=SZ2.out;have s3:=SZ3.out;have s4:=SZ4.out;have s5:=SZ5.out;have s6:=SZ6.out;have s7:=SZ7.out;have s8:=SZ8.out;have s9:=SZ9.out;have s10:=SZ10.out;have s11:=SZ11.out;have s12:=SZ12.out;omega))
 have SZ27:=ξh wr.size
 have O4:=ξh (O4.out.apart wr (fun k hk hk2=>by have h1:=HI4.out k hk;have h2:=LO8.out k hk2;have s8:=SZ8.out;have s9:=SZ9.out;have s10:=SZ10.out;have s11:=SZ11.out;have s12:=SZ12.out;omega))
 have HAn:=ξh ((wr.block _ (ξa HAn.out).1 (fun hk=>by have h1:=LO8.out _ hk;have s0:=SZ0.out;have s1:=SZ1.out;have s2:=SZ2.out;have s3:=SZ3.out;have s4:=SZ4.out;have s5:=SZ5.out;have s6:=SZ6.out;have s7:=SZ7.out;have s8:=SZ8.out;have s9:=SZ9.out;have s10:=SZ10.out;have s11:=SZ11.out;have s12:=SZ12.out;omega)).trans HAn.out)
 have HXw0v:=ξh ((wr.block _ (ξa HXw0v.out).1 (fun hk=>by exact NL8w0v.out hk)).trans HXw0v.out)
 have HXg0v:=ξh ((wr.block _ (ξa HXg0v.out).1 (fun hk=>by exact NL8g0v.out hk)).trans HXg0v.out)
 have O8:=ξh om
 have HM0:=ξh hm0
 clear wr hm0 om
 have hmn:(m0 != m0)=false:=by simp
 have hmi:((m0:Int) != (m0:Int))=false:=by simp
 have c_g0v_0:=blkc HXg0v.out (j:=0) (u:=(.slice r2a0 r2n0 r2c0)) rfl
 have c_g0v_1:=blkc HXg0v.out (j:=1) (u:=(.slice r2a1 r2n1 r2c1)) rfl
 have c_g0v_2:=blkc HXg0v.out (j:=2) (u:=(.slice r2a2 r2n2 r2c2)) rfl
 go_wp2_with fail
 clear c_g0v_0 c_g0v_1 c_g0v_2
 refine(heldPlan_M _ P f8 1 _ O8.out HRB.out.2.1 HRB.out.2.2.1 HRB.out.2.2.2.1 (by omega) (by omega)).mono ?_
 rw[←HM0.out]
 rintro e w28 ⟨rfl,b⟩
 have B28:=ξh (B27.out.trans (b.mono B27.out.size))
 have SZ28:=ξh b.size
 have O4:=ξh (O4.out.behind b)
 have O8:=ξh (O8.out.behind b)
 have HAn:=ξh (kept_o' HAn.out b)
 have HXw0v:=ξh (kept_o' HXw0v.out b)
 have HXg0v:=ξh (kept_o' HXg0v.out b)
 clear b
 have hqn0:¬(m0:Int)<0:=by omega
 have hqb0:decide ((m0:Int)<0)=false:=ξf hqn0
 clear hqn0 hqb0
 have c_n_0:=blkc HAn.out (j:=0) (u:=an1) rfl
 have c_n_1:=blkc HAn.out (j:=1) (u:=an2) rfl
 go_wp2_with fail
 clear c_n_0 c_n_1
 refine(HTOn.out _ B28.out).mono ?_
 unfold ToP
 rintro e w29 ⟨t12,f12,rfl,o12,n12,g12,b⟩
 have B29:=ξh (B28.out.trans (b.mono B28.out.size))
 have SZ29:=ξh b.size
 have O4:=ξh (O4.out.behind b)
 have O8:=ξh (O8.out.behind b)
 have HAn:=ξh (kept_o' HAn.out b)
 have HXw0v:=ξh (kept_o' HXw0v.out b)
 have HXg0v:=ξh (kept_o' HXg0v.out b)
 obtain⟨t12a0,t12n0,t12c0,t12a1,t12n1,t12c1,rfl⟩:=o12.form
 have O12:=ξh o12
 have HI12:=ξh o12.lt
 have LO12:=ξh g12
 have ND12:=ξh n12
 clear b o12 g12 n12
 go_wp2_with fail
 refine(HTOfs.out _ B29.out).mono ?_
 unfold ToP
 rintro e w30 ⟨t13,f13,rfl,o13,n13,g13,b⟩
 have B30:=ξh (B29.out.trans (b.mono B29.out.size))
 have SZ30:=ξh b.size
 have O4:=ξh (O4.out.behind b)
 have O8:=ξh (O8.out.behind b)
 have O12:=ξh (O12.out.behind b)
 have HAn:=ξh (kept_o' HAn.out b)
 have HXw0v:=ξh (kept_o' HXw0v.out b)
 have HXg0v:=ξh (kept_o' HXg0v.out b)
 have O13:=ξh o13
 have HI13:=ξh o13.lt
 have LO13:=ξh g13
 have ND13:=ξh n13
 clear b o13 g13 n13
 go_wp2_with fail
 refine(HTOgs.out _ B30.out).mono ?_
 unfold ToP
 rintro e w31 ⟨t14,f14,rfl,o14,n14,g14,b⟩
 have B31:=ξh (B30.out.trans (b.mono B30.out.size))
 have SZ31:=ξh b.size
 have O4:=ξh (O4.out.behind b)
 have O8:=ξh (O8.out.behind b)
 have O12:=ξh (O12.out.behind b)
 have O13:=ξh (O13.out.behind b)
 have HAn:=ξh (kept_o' HAn.out b)
 have HXw0v:=ξh (kept_o' HXw0v.out b)
 have HXg0v:=ξh (kept_o' HXg0v.out b)
 have O14:=ξh o14
 have HI14:=ξh o14.lt
 have LO14:=ξh g14
 have ND14:=ξh n14
 clear b o14 g14 n14
 go_wp2_with fail
 refine(HIM.out _ _ _ _ (O12.out.rd (HZn.out).2.2) O13.out.rd O14.out.rd).mono ?_
 rintro e w32 ⟨y3,f15,rfl,u15,n15,g15,b⟩
 obtain⟨r3a0,r3n0,r3c0,r3a1,r3n1,r3c1,r3a2,r3n2,r3c2,ev⟩:=u15.form
 have ev2:y3= .agg #[(.slice r3a0 r3n0 r3c0),(.slice r3a1 r3n1 r3c1),(.slice r3a2 r3n2 r3c2)]:=ev
 clear ev
 subst ev2
 have B32:=ξh (B31.out.trans (b.mono B31.out.size))
 have SZ32:=ξh b.size
 have O4:=ξh (O4.out.behind b)
 have O8:=ξh (O8.out.behind b)
 have O12:=ξh (O12.out.behind b)
 have O13:=ξh (O13.out.behind b)
 have O14:=ξh (O14.out.behind b)
 have HAn:=ξh (kept_o' HAn.out b)
 have HXw0v:=ξh (kept_o' HXw0v.out b)
 have HXg0v:=ξh (kept_o' HXg0v.out b)
 have O15:=ξh u15
 have HI15:=ξh (fun k hk=>(g15 k hk).2)
 have LO15:=ξh (fun k hk=>(g15 k hk).1)
 have ND15:=ξh n15
 clear b u15 n15 g15
 have c_n_0:=blkc HAn.out (j:=0) (u:=an1) rfl
 have c_n_1:=blkc HAn.out (j:=1) (u:=an2) rfl
 have c_w0v_0:=blkc HXw0v.out (j:=0) (u:=(.slice r1a0 r1n0 r1c0)) rfl
 have c_w0v_1:=blkc HXw0v.out (j:=1) (u:=(.slice r1a1 r1n1 r1c1)) rfl
 have c_w0v_2:=blkc HXw0v.out (j:=2) (u:=(.slice r1a2 r1n2 r1c2)) rfl
 have c_g0v_0:=blkc HXg0v.out (j:=0) (u:=(.slice r2a0 r2n0 r2c0)) rfl
 have c_g0v_1:=blkc HXg0v.out (j:=1) (u:=(.slice r2a1 r2n1 r2c1)) rfl
 have c_g0v_2:=blkc HXg0v.out (j:=2) (u:=(.slice r2a2 r2n2 r2c2)) rfl
 have ne_n:¬w.heap.size=w32.heap.size:=by have h1:=(ξa HAn.out).1;omega
 have ne_w0v:¬w7.heap.size=w32.heap.size:=by have h1:=(ξa HXw0v.out).1;omega
 have ne_g0v:¬w13.heap.size=w32.heap.size:=by have h1:=(ξa HXg0v.out).1;omega
 have b:=(ξb w32.heap.size w32).alloc (ξr _) (.cells #[(.slice r3a0 r3n0 r3c0),(.slice r3a1 r3n1 r3c1),(.slice r3a2 r3n2 r3c2)] 75)
 have kx:=ξn w32 (.cells #[(.slice r3a0 r3n0 r3c0),(.slice r3a1 r3n1 r3c1),(.slice r3a2 r3n2 r3c2)] 75)
 have sx:=(show w32.heap.size<(w32.alloc (.cells #[(.slice r3a0 r3n0 r3c0),(.slice r3a1 r3n1 r3c1),(.slice r3a2 r3n2 r3c2)] 75)).heap.size by simp)
 have NL4h0v:=ξh (show¬(w32.heap.size∈f4) from fun hk=>by have h1:=HI4.out _ hk;have s8:=SZ8.out;have s9:=SZ9.out;have s10:=SZ10.out;have s11:=SZ11.out;have s12:=SZ12.out;have s13:=SZ13.out;have s14:=SZ14.out;have s15:=SZ15.out;have s16:=SZ16.out;have s17:=SZ17.out;have s18:=SZ18.out;have s19:=SZ19.out;have s20:=SZ20.out;have s21:=SZ21.out;have s22:=SZ22.out;have s23:=SZ23.out;have s24:=SZ24.out;have s25:=SZ25.out;have s26:=SZ26.out;have s27:=SZ27.out;have s28:=SZ28.out;have s29:=SZ29.out;have s30:=SZ30.out;have s31:=SZ31.out;have s32:=SZ32.out;omega)
 have NL8h0v:=ξh (show¬(w32.heap.size∈f8) from fun hk=>by have h1:=HI8.out _ hk;have s14:=SZ14.out;have s15:=SZ15.out;have s16:=SZ16.out;have s17:=SZ17.out;have s18:=SZ18.out;have s19:=SZ19.out;have s20:=SZ20.out;have s21:=SZ21.out;have s22:=SZ22.out;have s23:=SZ23.out;have s24:=SZ24.out;have s25:=SZ25.out;have s26:=SZ26.out;have s27:=SZ27.out;have s28:=SZ28.out;have s29:=SZ29.out;have s30:=SZ30.out;have s31:=SZ31.out;have s32:=SZ32.out;omega)
 have NL12h0v:=ξh (show¬(w32.heap.size∈f12) from fun hk=>by have h1:=HI12.out _ hk;have s30:=SZ30.out;have s31:=SZ31.out;have s32:=SZ32.out;omega)
 have NL13h0v:=ξh (show¬(w32.heap.size∈f13) from fun hk=>by have h1:=HI13.out _ hk;have s31:=SZ31.out;have s32:=SZ32.out;omega)
 have NL14h0v:=ξh (show¬(w32.heap.size∈f14) from fun hk=>by have h1:=HI14.out _ hk;have s32:=SZ32.out;omega)
 have NL15h0v:=ξh (show¬(w32.heap.size∈f15) from fun hk=>by have h1:=HI15.out _ hk;skip;omega)
 have B33:=ξh (B32.out.trans (b.mono B32.out.size))
 have SZ33:=ξh b.size
 have O4:=ξh (O4.out.behind b)
 have O8:=ξh (O8.out.behind b)
 have O12:=ξh (O12.out.behind b)
 have O13:=ξh (O13.out.behind b)
 have O14:=ξh (O14.out.behind b)
 have O15:=ξh (O15.out.behind b)
 have HAn:=ξh (kept_o' HAn.out b)
 have HXw0v:=ξh (kept_o' HXw0v.out b)
 have HXg0v:=ξh (kept_o' HXg0v.out b)
 have d_n_0:=blkc HAn.out (j:=0) (u:=an1) rfl
 have d_n_1:=blkc HAn.out (j:=1) (u:=an2) rfl
 have d_w0v_0:=blkc HXw0v.out (j:=0) (u:=(.slice r1a0 r1n0 r1c0)) rfl
 have d_w0v_1:=blkc HXw0v.out (j:=1) (u:=(.slice r1a1 r1n1 r1c1)) rfl
 have d_w0v_2:=blkc HXw0v.out (j:=2) (u:=(.slice r1a2 r1n2 r1c2)) rfl
 have d_g0v_0:=blkc HXg0v.out (j:=0) (u:=(.slice r2a0 r2n0 r2c0)) rfl
 have d_g0v_1:=blkc HXg0v.out (j:=1) (u:=(.slice r2a1 r2n1 r2c1)) rfl
 have d_g0v_2:=blkc HXg0v.out (j:=2) (u:=(.slice r2a2 r2n2 r2c2)) rfl
 have HXh0v:=ξh kx
 have SZX32:=ξh sx
 clear b kx sx
 go_wp2_with fail
 clear c_n_0 c_n_1 c_w0v_0 c_w0v_1 c_w0v_2 c_g0v_0 c_g0v_1 c_g0v_2 ne_n ne_w0v ne_g0v d_n_0 d_n_1 d_w0v_0 d_w0v_1 d_w0v_2 d_g0v_0 d_g0v_1 d_g0v_2
 generalize w32.alloc (.cells #[(.slice r3a0 r3n0 r3c0),(.slice r3a1 r3n1 r3c1),(.slice r3a2 r3n2 r3c2)] 75)=w33 at *
 refine(eqPlan_same _ _ P _ (O15.out.rd HRB.out.1) (O4.out.rd HRB.out.1)).mono ?_
 rintro e w34 ⟨rfl,b⟩
 have B34:=ξh (B33.out.trans (b.mono B33.out.size))
 have SZ34:=ξh b.size
 have O4:=ξh (O4.out.behind b)
 have O8:=ξh (O8.out.behind b)
 have O15:=ξh (O15.out.behind b)
 have HAn:=ξh (kept_o' HAn.out b)
 have HXw0v:=ξh (kept_o' HXw0v.out b)
 have HXg0v:=ξh (kept_o' HXg0v.out b)
 have HXh0v:=ξh (kept_o' HXh0v.out b)
 clear b
 have c_g0v_0:=blkc HXg0v.out (j:=0) (u:=(.slice r2a0 r2n0 r2c0)) rfl
 have c_g0v_1:=blkc HXg0v.out (j:=1) (u:=(.slice r2a1 r2n1 r2c1)) rfl
 have c_g0v_2:=blkc HXg0v.out (j:=2) (u:=(.slice r2a2 r2n2 r2c2)) rfl
 go_wp2_with fail
 clear c_g0v_0 c_g0v_1 c_g0v_2
 refine(heldPlan_M _ P f8 1 _ O8.out HRB.out.2.1 HRB.out.2.2.1 HRB.out.2.2.2.1 (by omega) (by omega)).mono ?_
 rw[←HM0.out]
 rintro e w35 ⟨rfl,b⟩
 have B35:=ξh (B34.out.trans (b.mono B34.out.size))
 have SZ35:=ξh b.size
 have O4:=ξh (O4.out.behind b)
 have O8:=ξh (O8.out.behind b)
 have O15:=ξh (O15.out.behind b)
 have HAn:=ξh (kept_o' HAn.out b)
 have HXw0v:=ξh (kept_o' HXw0v.out b)
 have HXg0v:=ξh (kept_o' HXg0v.out b)
 have HXh0v:=ξh (kept_o' HXh0v.out b)
 clear b
 have hqn0:¬(m0:Int)<0:=by omega
 have hqb0:decide ((m0:Int)<0)=false:=ξf hqn0
 go_wp2
 go_ret
 exact⟨rfl,B35.out⟩
end Go.Proofs.YtofcicomhnkocaaGreat
