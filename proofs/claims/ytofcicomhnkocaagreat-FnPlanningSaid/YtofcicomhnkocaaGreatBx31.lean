import Derived.Test.YtofcicomhnkocaaGreatBx29
set_option linter.unusedVariables false
namespace Go.Proofs.YtofcicomhnkocaaGreat
set_option maxHeartbeats 12800000
open Go.RowKit Go.Sort
set_option maxRecDepth 100000
def DmP (w:World) (B:Nat) (c:Value) (K:Nat) (e:Ending) (w':World):Prop:=∃d:Dem,e= .returned (demV d)∧CS w B c (K+40) w'
theorem rate_rng:∀j,j<6→ ∃x:Int,10≤x∧x≤120∧(#[Value.int .i64 10,.int .i64 20,.int .i64 40,.int .i64 50,.int .i64 90,.int .i64 120]:Array Value)[j]?= some (.int .i64 x)
 | 0,_=>⟨10,by omega,by omega,rfl⟩
 | 1,_=>⟨20,by omega,by omega,rfl⟩
 | 2,_=>⟨40,by omega,by omega,rfl⟩
 | 3,_=>⟨50,by omega,by omega,rfl⟩
 | 4,_=>⟨90,by omega,by omega,rfl⟩
 | 5,_=>⟨120,by omega,by omega,rfl⟩
 | j+6,h=>by omega
theorem demand_any (B:Nat) (c:Value) (K:Nat) (a1 a2:Option Addr) (m1 c1 m2 c2:Nat) (w:World) (h:Cs w B c K) (hk:K≤2000000000000000) (h2:2≤m1) (h16:m1≤16):
 Calls Tryz.prog 167 #[ptr B,.agg #[.slice a1 m1 c1,.slice a2 m2 c2]] w (DmP w B c K):=by
 have hBw:=h.lt.1
 obtain⟨NP,hNP⟩:∃NP,NP=DmP w B c K:=⟨_,rfl⟩
 rw[←hNP]
 have hz1:(w.alloc (.cells #[.slice a1 m1 c1,.slice a2 m2 c2] 35)).heap.size=w.heap.size+1:=by simp
 have C1:=ξh ((h.here.alloc (.cells #[.slice a1 m1 c1,.slice a2 m2 c2] 35)).alloc (.cells #[.int .i64 0,.int .i64 0,.int .i64 0,.int .i64 0] 53))
 have X1:=ξh ((heap_alloc_old _ (.cells #[.int .i64 0,.int .i64 0,.int .i64 0,.int .i64 0] 53) (by simp)).trans (ξn w (.cells #[.slice a1 m1 c1,.slice a2 m2 c2] 35)))
 have R1:=ξn (w.alloc (.cells #[.slice a1 m1 c1,.slice a2 m2 c2] 35)) (.cells #[.int .i64 0,.int .i64 0,.int .i64 0,.int .i64 0] 53)
 rw[hz1] at R1
 have R1:=ξh R1
 clear h hz1
 go_enter Tryz.func167,Tryz.ntmps167
 go_upto_region 1 with fail
 generalize (w.alloc (.cells #[.slice a1 m1 c1,.slice a2 m2 c2] 35)).alloc (.cells #[.int .i64 0,.int .i64 0,.int .i64 0,.int .i64 0] 53)=w1 at *
 obtain⟨bn,hbn⟩:∃bn,bn=w.heap.size:=⟨_,rfl⟩
 obtain⟨br,hbr⟩:∃br,br=w.heap.size+1:=⟨_,rfl⟩
 have hn0:w.heap.size≤bn:=by omega
 have hr0:w.heap.size≤br:=by omega
 have hbnr:bn≠br:=by omega
 rw[←hbr] at R1 ⊢
 rw[←hbn] at X1 ⊢
 clear hbn hbr
 have y0:=blkc X1.out (j:=0) (u:= .slice a1 m1 c1) rfl
 go_wp2_with fail
 refine(ξX B c _ (m1:Int) _ C1.st (by omega) (by omega) (by omega)).mono ?_
 rintro e w2 ⟨A,A0,A1,rfl,hc2,-⟩
 have CC:=ξh (C1.call hc2)
 have HX:=ξh (C1.blk2 hc2 hn0 X1.out)
 have HR:=ξh (C1.blk2 hc2 hr0 R1.out)
 have f1:IntKind.i64.wrap (A+1)=A+1:=ξi _ (by omega)
 have f2:IntKind.i64.wrap ((m1:Int)-1)=(m1:Int)-1:=ξi _ (by omega)
 have hm0:¬m1=0:=by omega
 have fz:((m1:Int)==0)=false:=by simp;omega
 clear C1 X1 R1 hc2 y0
 go_upto_region 2 with fail
 rename_i KC hKC
 have HT:∀(bg b6:Nat) (q xp xr xk:Int) (w':World),w.heap.size≤b6→b6≠br→CS w B c (K+2+2+2+2) w'→w'.heap[b6]?= some (.cells #[.int .i64 A,.int .i64 q,.int .i64 xr,.int .i64 xk] 53 (0,0))→w'.heap[br]?= some (.cells #[.int .i64 0,.int .i64 0,.int .i64 0,.int .i64 0] 53 (0,0))→
  Exit.then KC (bodyPost Tryz.prog Tryz.f167 NP) Exit.normal {tmps:=#[ptr B,.agg #[.slice a1 m1 c1,.slice a2 m2 c2],undef,ptr bn,ptr br,.int .i64 A,ptr b6,ptr B,ptr bn,.slice a1 m1 c1,.int .i64 m1,.int .i64 A,.int .i64 A,.int .i64 A,.int .i64 (A+1),ptr B,ptr bn,.slice a1 m1 c1,.int .i64 m1,.int .i64 ((m1:Int)-1),.int .i64 xp,.int .i64 (A+1+xp),ptr bn,.slice a1 m1 c1,.int .i64 m1,.int .i64 q,ptr B,.slice (some ⟨bg,0,none⟩) 6 6,.int .i64 xr,ptr B,.int .i64 xk,.agg #[.int .i64 A,.int .i64 q,.int .i64 xr,.int .i64 xk],undef,undef,undef,undef,undef,undef,undef,undef,undef,undef,undef,undef,undef,undef,undef,undef,undef,undef,undef,undef,undef],defers:=[]} w':=by
  intro bg b6 q xp xr xk w2 h60 h6r hC hH hR
  have CC:=ξh hC
  have H6:=ξh hH
  have HR:=ξh hR
  clear hC hH hR
  go_wp2_with fail
  refine(ξX B c _ 48 _ CC.st (by omega) (by omega) (by omega)).mono ?_
  rintro e w3 ⟨k,k0,k1,rfl,hc3,-⟩
  have H6:=ξh (CC.blk2 hc3 h60 H6.out)
  have HR:=ξh (CC.blk2 hc3 hr0 HR.out)
  have CC:=ξh (CC.call hc3)
  clear hc3
  by_cases e0:k=0
  · subst e0
    go_wp2_with fail
    refine(ξX B c _ 10 _ CC.st (by omega) (by omega) (by omega)).mono ?_
    rintro e w4 ⟨y,y0,y1,rfl,hc4,-⟩
    have X4:=ξh (CC.blk2 hc4 h60 H6.out)
    have R4:=ξh (CC.blk2 hc4 hr0 HR.out)
    have C4:=ξh (CC.call hc4)
    obtain⟨z,hz⟩:∃z,IntKind.i64.wrap (y-1)=z:=⟨_,rfl⟩
    clear hc4 CC H6 HR
    have q0:=blkc X4.out (j:=0) (u:= .int .i64 A) rfl
    have q1:=blkc X4.out (j:=1) (u:= .int .i64 q) rfl
    have q2:=blkc X4.out (j:=2) (u:= .int .i64 xr) rfl
    have q3:=blkc X4.out (j:=3) (u:= .int .i64 xk) rfl
    have fz6:w4.frozen? ⟨b6,1,none⟩=false:=ξz _ _ _ _ _ X4.out
    go_upto_region 10 with fail
    have X5:=ξh (ξe w4 b6 1 _ _ (.int .i64 z) X4.out)
    have R5:=ξh ((ξm w4 ⟨b6,1,none⟩ br (.int .i64 z) (fun e=>h6r e.symm)).trans R4.out)
    have C5:=ξh (C4.set (b:=b6) (j:=1) h60 (.int .i64 z))
    generalize w4.setCell ⟨b6,1,none⟩ (.int .i64 z)=w5 at *
    clear q0 q1 q2 q3 fz6 X4 R4 C4
    have q0:=blkc X5.out (j:=0) (u:= .int .i64 A) rfl
    have q1:=blkc X5.out (j:=1) (u:= .int .i64 z) rfl
    have q2:=blkc X5.out (j:=2) (u:= .int .i64 xr) rfl
    have q3:=blkc X5.out (j:=3) (u:= .int .i64 xk) rfl
    have r0:=blkc R5.out (j:=0) (u:= .int .i64 0) rfl
    have r1:=blkc R5.out (j:=1) (u:= .int .i64 0) rfl
    have r2:=blkc R5.out (j:=2) (u:= .int .i64 0) rfl
    have r3:=blkc R5.out (j:=3) (u:= .int .i64 0) rfl
    have g0:w5.frozen? ⟨br,0,none⟩=false:=ξz _ _ _ _ _ R5.out
    have g1:w5.frozen? ⟨br,1,none⟩=false:=ξz _ _ _ _ _ R5.out
    have g2:w5.frozen? ⟨br,2,none⟩=false:=ξz _ _ _ _ _ R5.out
    have g3:w5.frozen? ⟨br,3,none⟩=false:=ξz _ _ _ _ _ R5.out
    have s0:=ξe w5 br 0 _ _ (.int .i64 A) R5.out
    have s1:=ξe (w5.setCell ⟨br,0,none⟩ (.int .i64 A)) br 1 _ _ (.int .i64 z) s0
    have s2:=ξe ((w5.setCell ⟨br,0,none⟩ (.int .i64 A)).setCell ⟨br,1,none⟩ (.int .i64 z)) br 2 _ _ (.int .i64 xr) s1
    have s3:=ξe (((w5.setCell ⟨br,0,none⟩ (.int .i64 A)).setCell ⟨br,1,none⟩ (.int .i64 z)).setCell ⟨br,2,none⟩ (.int .i64 xr)) br 3 _ _ (.int .i64 xk) s2
    have C9:=ξh ((((C5.set (b:=br) (j:=0) hr0 (.int .i64 A)).set (b:=br) (j:=1) hr0 (.int .i64 z)).set (b:=br) (j:=2) hr0 (.int .i64 xr)).set (b:=br) (j:=3) hr0 (.int .i64 xk))
    have t0:=blkc s3 (j:=0) (u:= .int .i64 A) rfl
    have t1:=blkc s3 (j:=1) (u:= .int .i64 z) rfl
    have t2:=blkc s3 (j:=2) (u:= .int .i64 xr) rfl
    have t3:=blkc s3 (j:=3) (u:= .int .i64 xk) rfl
    clear s0 s1 s2 s3
    go_wp2_with fail
    subst hNP
    exact bodyPost_ret (v:= .agg #[.int .i64 A,.int .i64 z,.int .i64 xr,.int .i64 xk]) (by simp[results,Tryz.results167,go_sem,t0,t1,t2,t3]) rfl ⟨⟨A,z,xr,xk⟩,rfl,C9.mono (by omega)⟩
  by_cases e1:k=1
  · subst e1
    have CA:=ξh (CC.alloc (.cells #[.int .i64 0,.int .i64 1,.int .i64 1000,.int .i64 1001] 3))
    have HA:=ξh (ξA H6.out ((ξb _ _).alloc (ξr _) (.cells #[.int .i64 0,.int .i64 1,.int .i64 1000,.int .i64 1001] 3)))
    have RA:=ξh (ξA HR.out ((ξb _ _).alloc (ξr _) (.cells #[.int .i64 0,.int .i64 1,.int .i64 1000,.int .i64 1001] 3)))
    have HG:=ξh (ξar (n:=4) (lo:=0) (hi:=1001) (ξn w3 (.cells #[.int .i64 0,.int .i64 1,.int .i64 1000,.int .i64 1001] 3)) (by
     intro j hj
     rcases j with _ | _ | _ | _ | j
     · exact⟨0,by omega,by omega,rfl⟩
     · exact⟨1,by omega,by omega,rfl⟩
     · exact⟨1000,by omega,by omega,rfl⟩
     · exact⟨1001,by omega,by omega,rfl⟩
     · omega))
    have hl3:=CC.st.lt.1
    go_wp2_with fail
    refine(ξaw B c _ w3.heap.size 4 4 0 1001 _ CA.st (by omega) (by omega) (by omega) (by omega) HG.out).mono ?_
    rintro e w4 ⟨z,z0,z1,rfl,hc4,-⟩
    have C4:=ξh (CA.call hc4)
    have X4:=ξh (CA.blk2 hc4 h60 HA.out)
    have R4:=ξh (CA.blk2 hc4 hr0 RA.out)
    clear CA HA RA HG hc4 CC H6 HR
    have q0:=blkc X4.out (j:=0) (u:= .int .i64 A) rfl
    have q1:=blkc X4.out (j:=1) (u:= .int .i64 q) rfl
    have q2:=blkc X4.out (j:=2) (u:= .int .i64 xr) rfl
    have q3:=blkc X4.out (j:=3) (u:= .int .i64 xk) rfl
    have fz6:w4.frozen? ⟨b6,2,none⟩=false:=ξz _ _ _ _ _ X4.out
    go_upto_region 10 with fail
    have X5:=ξh (ξe w4 b6 2 _ _ (.int .i64 z) X4.out)
    have R5:=ξh ((ξm w4 ⟨b6,2,none⟩ br (.int .i64 z) (fun e=>h6r e.symm)).trans R4.out)
    have C5:=ξh (C4.set (b:=b6) (j:=2) h60 (.int .i64 z))
    generalize w4.setCell ⟨b6,2,none⟩ (.int .i64 z)=w5 at *
    clear q0 q1 q2 q3 fz6 X4 R4 C4
    have q0:=blkc X5.out (j:=0) (u:= .int .i64 A) rfl
    have q1:=blkc X5.out (j:=1) (u:= .int .i64 q) rfl
    have q2:=blkc X5.out (j:=2) (u:= .int .i64 z) rfl
    have q3:=blkc X5.out (j:=3) (u:= .int .i64 xk) rfl
    have r0:=blkc R5.out (j:=0) (u:= .int .i64 0) rfl
    have r1:=blkc R5.out (j:=1) (u:= .int .i64 0) rfl
    have r2:=blkc R5.out (j:=2) (u:= .int .i64 0) rfl
    have r3:=blkc R5.out (j:=3) (u:= .int .i64 0) rfl
    have g0:w5.frozen? ⟨br,0,none⟩=false:=ξz _ _ _ _ _ R5.out
    have g1:w5.frozen? ⟨br,1,none⟩=false:=ξz _ _ _ _ _ R5.out
    have g2:w5.frozen? ⟨br,2,none⟩=false:=ξz _ _ _ _ _ R5.out
    have g3:w5.frozen? ⟨br,3,none⟩=false:=ξz _ _ _ _ _ R5.out
    have s0:=ξe w5 br 0 _ _ (.int .i64 A) R5.out
    have s1:=ξe (w5.setCell ⟨br,0,none⟩ (.int .i64 A)) br 1 _ _ (.int .i64 q) s0
    have s2:=ξe ((w5.setCell ⟨br,0,none⟩ (.int .i64 A)).setCell ⟨br,1,none⟩ (.int .i64 q)) br 2 _ _ (.int .i64 z) s1
    have s3:=ξe (((w5.setCell ⟨br,0,none⟩ (.int .i64 A)).setCell ⟨br,1,none⟩ (.int .i64 q)).setCell ⟨br,2,none⟩ (.int .i64 z)) br 3 _ _ (.int .i64 xk) s2
    have C9:=ξh ((((C5.set (b:=br) (j:=0) hr0 (.int .i64 A)).set (b:=br) (j:=1) hr0 (.int .i64 q)).set (b:=br) (j:=2) hr0 (.int .i64 z)).set (b:=br) (j:=3) hr0 (.int .i64 xk))
    have t0:=blkc s3 (j:=0) (u:= .int .i64 A) rfl
    have t1:=blkc s3 (j:=1) (u:= .int .i64 q) rfl
    have t2:=blkc s3 (j:=2) (u:= .int .i64 z) rfl
    have t3:=blkc s3 (j:=3) (u:= .int .i64 xk) rfl
    clear s0 s1 s2 s3
    go_wp2_with fail
    subst hNP
    exact bodyPost_ret (v:= .agg #[.int .i64 A,.int .i64 q,.int .i64 z,.int .i64 xk]) (by simp[results,Tryz.results167,go_sem,t0,t1,t2,t3]) rfl ⟨⟨A,q,z,xk⟩,rfl,C9.mono (by omega)⟩
  by_cases e2:k=2
  · subst e2
    have CA:=ξh (CC.alloc (.cells #[.int .i64 (-1),.int .i64 3] 3))
    have HA:=ξh (ξA H6.out ((ξb _ _).alloc (ξr _) (.cells #[.int .i64 (-1),.int .i64 3] 3)))
    have RA:=ξh (ξA HR.out ((ξb _ _).alloc (ξr _) (.cells #[.int .i64 (-1),.int .i64 3] 3)))
    have HG:=ξh (ξar (n:=2) (lo:=(-1)) (hi:=3) (ξn w3 (.cells #[.int .i64 (-1),.int .i64 3] 3)) (by
     intro j hj
     rcases j with _ | _ | j
     · exact⟨-1,by omega,by omega,rfl⟩
     · exact⟨3,by omega,by omega,rfl⟩
     · omega))
    have hl3:=CC.st.lt.1
    go_wp2_with fail
    refine(ξaw B c _ w3.heap.size 2 2 (-1) 3 _ CA.st (by omega) (by omega) (by omega) (by omega) HG.out).mono ?_
    rintro e w4 ⟨z,z0,z1,rfl,hc4,-⟩
    have C4:=ξh (CA.call hc4)
    have X4:=ξh (CA.blk2 hc4 h60 HA.out)
    have R4:=ξh (CA.blk2 hc4 hr0 RA.out)
    clear CA HA RA HG hc4 CC H6 HR
    have q0:=blkc X4.out (j:=0) (u:= .int .i64 A) rfl
    have q1:=blkc X4.out (j:=1) (u:= .int .i64 q) rfl
    have q2:=blkc X4.out (j:=2) (u:= .int .i64 xr) rfl
    have q3:=blkc X4.out (j:=3) (u:= .int .i64 xk) rfl
    have fz6:w4.frozen? ⟨b6,3,none⟩=false:=ξz _ _ _ _ _ X4.out
    go_upto_region 10 with fail
    have X5:=ξh (ξe w4 b6 3 _ _ (.int .i64 z) X4.out)
    have R5:=ξh ((ξm w4 ⟨b6,3,none⟩ br (.int .i64 z) (fun e=>h6r e.symm)).trans R4.out)
    have C5:=ξh (C4.set (b:=b6) (j:=3) h60 (.int .i64 z))
    generalize w4.setCell ⟨b6,3,none⟩ (.int .i64 z)=w5 at *
    clear q0 q1 q2 q3 fz6 X4 R4 C4
    have q0:=blkc X5.out (j:=0) (u:= .int .i64 A) rfl
    have q1:=blkc X5.out (j:=1) (u:= .int .i64 q) rfl
    have q2:=blkc X5.out (j:=2) (u:= .int .i64 xr) rfl
    have q3:=blkc X5.out (j:=3) (u:= .int .i64 z) rfl
    have r0:=blkc R5.out (j:=0) (u:= .int .i64 0) rfl
    have r1:=blkc R5.out (j:=1) (u:= .int .i64 0) rfl
    have r2:=blkc R5.out (j:=2) (u:= .int .i64 0) rfl
    have r3:=blkc R5.out (j:=3) (u:= .int .i64 0) rfl
    have g0:w5.frozen? ⟨br,0,none⟩=false:=ξz _ _ _ _ _ R5.out
    have g1:w5.frozen? ⟨br,1,none⟩=false:=ξz _ _ _ _ _ R5.out
    have g2:w5.frozen? ⟨br,2,none⟩=false:=ξz _ _ _ _ _ R5.out
    have g3:w5.frozen? ⟨br,3,none⟩=false:=ξz _ _ _ _ _ R5.out
    have s0:=ξe w5 br 0 _ _ (.int .i64 A) R5.out
    have s1:=ξe (w5.setCell ⟨br,0,none⟩ (.int .i64 A)) br 1 _ _ (.int .i64 q) s0
    have s2:=ξe ((w5.setCell ⟨br,0,none⟩ (.int .i64 A)).setCell ⟨br,1,none⟩ (.int .i64 q)) br 2 _ _ (.int .i64 xr) s1
    have s3:=ξe (((w5.setCell ⟨br,0,none⟩ (.int .i64 A)).setCell ⟨br,1,none⟩ (.int .i64 q)).setCell ⟨br,2,none⟩ (.int .i64 xr)) br 3 _ _ (.int .i64 z) s2
    have C9:=ξh ((((C5.set (b:=br) (j:=0) hr0 (.int .i64 A)).set (b:=br) (j:=1) hr0 (.int .i64 q)).set (b:=br) (j:=2) hr0 (.int .i64 xr)).set (b:=br) (j:=3) hr0 (.int .i64 z))
    have t0:=blkc s3 (j:=0) (u:= .int .i64 A) rfl
    have t1:=blkc s3 (j:=1) (u:= .int .i64 q) rfl
    have t2:=blkc s3 (j:=2) (u:= .int .i64 xr) rfl
    have t3:=blkc s3 (j:=3) (u:= .int .i64 z) rfl
    clear s0 s1 s2 s3
    go_wp2_with fail
    subst hNP
    exact bodyPost_ret (v:= .agg #[.int .i64 A,.int .i64 q,.int .i64 xr,.int .i64 z]) (by simp[results,Tryz.results167,go_sem,t0,t1,t2,t3]) rfl ⟨⟨A,q,xr,z⟩,rfl,C9.mono (by omega)⟩
  go_upto_region 10 with fail
  have q0:=blkc H6.out (j:=0) (u:= .int .i64 A) rfl
  have q1:=blkc H6.out (j:=1) (u:= .int .i64 q) rfl
  have q2:=blkc H6.out (j:=2) (u:= .int .i64 xr) rfl
  have q3:=blkc H6.out (j:=3) (u:= .int .i64 xk) rfl
  have r0:=blkc HR.out (j:=0) (u:= .int .i64 0) rfl
  have r1:=blkc HR.out (j:=1) (u:= .int .i64 0) rfl
  have r2:=blkc HR.out (j:=2) (u:= .int .i64 0) rfl
  have r3:=blkc HR.out (j:=3) (u:= .int .i64 0) rfl
  have g0:w3.frozen? ⟨br,0,none⟩=false:=ξz _ _ _ _ _ HR.out
  have g1:w3.frozen? ⟨br,1,none⟩=false:=ξz _ _ _ _ _ HR.out
  have g2:w3.frozen? ⟨br,2,none⟩=false:=ξz _ _ _ _ _ HR.out
  have g3:w3.frozen? ⟨br,3,none⟩=false:=ξz _ _ _ _ _ HR.out
  have s0:=ξe w3 br 0 _ _ (.int .i64 A) HR.out
  have s1:=ξe (w3.setCell ⟨br,0,none⟩ (.int .i64 A)) br 1 _ _ (.int .i64 q) s0
  have s2:=ξe ((w3.setCell ⟨br,0,none⟩ (.int .i64 A)).setCell ⟨br,1,none⟩ (.int .i64 q)) br 2 _ _ (.int .i64 xr) s1
  have s3:=ξe (((w3.setCell ⟨br,0,none⟩ (.int .i64 A)).setCell ⟨br,1,none⟩ (.int .i64 q)).setCell ⟨br,2,none⟩ (.int .i64 xr)) br 3 _ _ (.int .i64 xk) s2
  have C9:=ξh ((((CC.set (b:=br) (j:=0) hr0 (.int .i64 A)).set (b:=br) (j:=1) hr0 (.int .i64 q)).set (b:=br) (j:=2) hr0 (.int .i64 xr)).set (b:=br) (j:=3) hr0 (.int .i64 xk))
  have t0:=blkc s3 (j:=0) (u:= .int .i64 A) rfl
  have t1:=blkc s3 (j:=1) (u:= .int .i64 q) rfl
  have t2:=blkc s3 (j:=2) (u:= .int .i64 xr) rfl
  have t3:=blkc s3 (j:=3) (u:= .int .i64 xk) rfl
  clear s0 s1 s2 s3
  go_wp2_with fail
  subst hNP
  exact bodyPost_ret (v:= .agg #[.int .i64 A,.int .i64 q,.int .i64 xr,.int .i64 xk]) (by simp[results,Tryz.results167,go_sem,t0,t1,t2,t3]) rfl ⟨⟨A,q,xr,xk⟩,rfl,C9.mono (by omega)⟩
 refine ξH [0,1,2,3,4,5,6,7,8,9,10,11,12,13,14,15,16,17,18,19,20,21] (S:=fun w'=>w'.cell? ⟨bn,0,none⟩=some (.slice a1 m1 c1)) (by kernel_rfl) (blkc (show w2.drew.heap[bn]?= _ from HX.out) rfl) (fun hH=> ?_)
 have CC:=ξh CC.drew
 have HX:=ξh (show w2.drew.heap[bn]?= _ from HX.out)
 have HR:=ξh (show w2.drew.heap[br]?= _ from HR.out)
 obtain⟨wc,hwc⟩:∃wc,wc=w2.drew:=⟨_,rfl⟩
 rw[←hwc] at CC HX HR hH ⊢
 clear hwc
 refine hlF 0 rfl hH ?_
 try simp only[Act.put,hlA,hlB,hlC]
 refine hlF 1 rfl hH ?_
 try simp only[Act.put,hlA,hlB,hlC]
 refine hlF 2 rfl hH ?_
 try simp only[Act.put,hlA,hlB,hlC]
 refine hlF 3 rfl hH ?_
 try simp only[Act.put,hlA,hlB,hlC]
 refine hlF 4 rfl hH ?_
 try simp only[Act.put,hlA,hlB,hlC]
 refine hlF 5 rfl hH ?_
 try simp only[Act.put,hlA,hlB,hlC]
 refine hlF 6 rfl hH ?_
 try simp only[Act.put,hlA,hlB,hlC]
 refine hlF 7 rfl hH ?_
 try simp only[Act.put,hlA,hlB,hlC]
 refine hlF 10 rfl hH ?_
 try simp only[Act.put,hlA,hlB,hlC]
 refine hlF 11 rfl hH ?_
 try simp only[Act.put,hlA,hlB,hlC]
 refine hlF 12 rfl hH ?_
 try simp only[Act.put,hlA,hlB,hlC]
 refine hlF 14 rfl hH ?_
 try simp only[Act.put,hlA,hlB,hlC]
 refine hlF 17 rfl hH ?_
 try simp only[Act.put,hlA,hlB,hlC]
 refine ξB (rs:=[8,15,20]) (by kernel_rfl) (by simp) ?_
 refine AllReadyL.cons rfl (fun KK hKK=> ?_) (AllReadyL.cons rfl (fun KK hKK=> ?_) (AllReadyL.cons rfl (fun KK hKK=> ?_) AllReadyL.nil))
 go_simp
 go_at_call 72
 refine(ξX B c _ ((m1:Int)-1) _ CC.st (by omega) (by omega) (by omega)).mono ?_
 rintro e wn ⟨xp,p0,p1,rfl,hcA,-⟩
 have HX:=ξh (CC.blk2 hcA hn0 HX.out)
 have HR:=ξh (CC.blk2 hcA hr0 HR.out)
 skip
 skip
 have CC:=ξh (CC.call hcA)
 have f3:IntKind.i64.wrap (A+1+xp)=A+1+xp:=ξi _ (by omega)
 clear hcA
 obtain⟨wc,hwc⟩:∃wc,wc=wn:=⟨_,rfl⟩
 subst hwc
 refine hKK.out _ _ (blkc HX.out rfl) (fun hH=> ?_)
 clear hKK KK
 try simp only[Act.put,hlA,hlB,hlC]
 have R8:True:=trivial
 refine hlF 9 rfl hH ?_
 try simp only[Act.put,hlA,hlB,hlC]
 refine hlF 13 rfl hH ?_
 try simp only[Act.put,hlA,hlB,hlC]
 rotate_left 1
 go_simp
 obtain⟨bg,hbg⟩:∃bb,bb=wc.heap.size:=⟨_,rfl⟩
 have BA:Below wc.heap.size wc (wc.alloc (.cells #[.int .i64 10,.int .i64 20,.int .i64 40,.int .i64 50,.int .i64 90,.int .i64 120] 3)):=(ξb _ _).alloc (ξr _) _
 have HG:=ξn wc (.cells #[.int .i64 10,.int .i64 20,.int .i64 40,.int .i64 50,.int .i64 90,.int .i64 120] 3)
 have hg0:w.heap.size≤bg:=by rw[hbg];exact CC.size
 have hgB:bg≠B:=by have:=CC.st.lt.1;omega
 rw[←hbg] at HG ⊢
 have HG:=ξh HG
 have HX:=ξh (ξA HX.out BA)
 have HR:=ξh (ξA HR.out BA)
 skip
 have CC:=ξh (CC.below BA)
 clear hbg BA
 generalize wc.alloc (.cells #[.int .i64 10,.int .i64 20,.int .i64 40,.int .i64 50,.int .i64 90,.int .i64 120] 3)=wn at *
 obtain⟨wc,hwc⟩:∃wc,wc=wn:=⟨_,rfl⟩
 subst hwc
 refine hKK.out _ _ (blkc HX.out rfl) (fun hH=> ?_)
 clear hKK KK
 try simp only[Act.put,hlA,hlB,hlC]
 have R15:True:=trivial
 rotate_left 1
 go_simp
 obtain⟨b6,hb6⟩:∃bb,bb=wc.heap.size:=⟨_,rfl⟩
 have BA:Below wc.heap.size wc (wc.alloc (.cells #[.int .i64 0,.int .i64 0,.int .i64 0,.int .i64 0] 53)):=(ξb _ _).alloc (ξr _) _
 have H6:=ξn wc (.cells #[.int .i64 0,.int .i64 0,.int .i64 0,.int .i64 0] 53)
 have h60:w.heap.size≤b6:=by rw[hb6];exact CC.size
 have h6r:b6≠br:=by have:=(ξa HR.out).1;omega
 rw[←hb6] at H6 ⊢
 have H6:=ξh H6
 have HX:=ξh (ξA HX.out BA)
 have HR:=ξh (ξA HR.out BA)
 skip
 have CC:=ξh (CC.below BA)
 clear hb6 BA
 generalize wc.alloc (.cells #[.int .i64 0,.int .i64 0,.int .i64 0,.int .i64 0] 53)=wn at *
 obtain⟨wc,hwc⟩:∃wc,wc=wn:=⟨_,rfl⟩
 subst hwc
 refine hKK.out _ _ (blkc HX.out rfl) (fun hH=> ?_)
 clear hKK KK
 try simp only[Act.put,hlA,hlB,hlC]
 have R20:True:=trivial
 rotate_left 1
 all_goals
  first
   | have hD:True:=R8
     clear hD
     refine ξB (rs:=[15,20]) (by kernel_rfl) (by simp) ?_
     refine AllReadyL.cons rfl (fun KK hKK=> ?_) (AllReadyL.cons rfl (fun KK hKK=> ?_) AllReadyL.nil)
     go_simp
     obtain⟨bg,hbg⟩:∃bb,bb=wc.heap.size:=⟨_,rfl⟩
     have BA:Below wc.heap.size wc (wc.alloc (.cells #[.int .i64 10,.int .i64 20,.int .i64 40,.int .i64 50,.int .i64 90,.int .i64 120] 3)):=(ξb _ _).alloc (ξr _) _
     have HG:=ξn wc (.cells #[.int .i64 10,.int .i64 20,.int .i64 40,.int .i64 50,.int .i64 90,.int .i64 120] 3)
     have hg0:w.heap.size≤bg:=by rw[hbg];exact CC.size
     have hgB:bg≠B:=by have:=CC.st.lt.1;omega
     rw[←hbg] at HG ⊢
     have HG:=ξh HG
     have HX:=ξh (ξA HX.out BA)
     have HR:=ξh (ξA HR.out BA)
     skip
     have CC:=ξh (CC.below BA)
     clear hbg BA
     generalize wc.alloc (.cells #[.int .i64 10,.int .i64 20,.int .i64 40,.int .i64 50,.int .i64 90,.int .i64 120] 3)=wn at *
     obtain⟨wc,hwc⟩:∃wc,wc=wn:=⟨_,rfl⟩
     subst hwc
     refine hKK.out _ _ (blkc HX.out rfl) (fun hH=> ?_)
     clear hKK KK
     try simp only[Act.put,hlA,hlB,hlC]
     have R15:True:=trivial
     rotate_left 1
     go_simp
     obtain⟨b6,hb6⟩:∃bb,bb=wc.heap.size:=⟨_,rfl⟩
     have BA:Below wc.heap.size wc (wc.alloc (.cells #[.int .i64 0,.int .i64 0,.int .i64 0,.int .i64 0] 53)):=(ξb _ _).alloc (ξr _) _
     have H6:=ξn wc (.cells #[.int .i64 0,.int .i64 0,.int .i64 0,.int .i64 0] 53)
     have h60:w.heap.size≤b6:=by rw[hb6];exact CC.size
     have h6r:b6≠br:=by have:=(ξa HR.out).1;omega
     rw[←hb6] at H6 ⊢
     have H6:=ξh H6
     have HX:=ξh (ξA HX.out BA)
     have HR:=ξh (ξA HR.out BA)
     skip
     have CC:=ξh (CC.below BA)
     clear hb6 BA
     generalize wc.alloc (.cells #[.int .i64 0,.int .i64 0,.int .i64 0,.int .i64 0] 53)=wn at *
     obtain⟨wc,hwc⟩:∃wc,wc=wn:=⟨_,rfl⟩
     subst hwc
     refine hKK.out _ _ (blkc HX.out rfl) (fun hH=> ?_)
     clear hKK KK
     try simp only[Act.put,hlA,hlB,hlC]
     have R20:True:=trivial
     rotate_left 1
   | have hD:True:=R15
     clear hD
     refine ξB (rs:=[8,20]) (by kernel_rfl) (by simp) ?_
     refine AllReadyL.cons rfl (fun KK hKK=> ?_) (AllReadyL.cons rfl (fun KK hKK=> ?_) AllReadyL.nil)
     go_simp
     go_at_call 72
     refine(ξX B c _ ((m1:Int)-1) _ CC.st (by omega) (by omega) (by omega)).mono ?_
     rintro e wn ⟨xp,p0,p1,rfl,hcA,-⟩
     have HX:=ξh (CC.blk2 hcA hn0 HX.out)
     have HR:=ξh (CC.blk2 hcA hr0 HR.out)
     have HG:=ξh (CC.blk2 hcA hg0 HG.out)
     skip
     have CC:=ξh (CC.call hcA)
     have f3:IntKind.i64.wrap (A+1+xp)=A+1+xp:=ξi _ (by omega)
     clear hcA
     obtain⟨wc,hwc⟩:∃wc,wc=wn:=⟨_,rfl⟩
     subst hwc
     refine hKK.out _ _ (blkc HX.out rfl) (fun hH=> ?_)
     clear hKK KK
     try simp only[Act.put,hlA,hlB,hlC]
     have R8:True:=trivial
     refine hlF 9 rfl hH ?_
     try simp only[Act.put,hlA,hlB,hlC]
     refine hlF 13 rfl hH ?_
     try simp only[Act.put,hlA,hlB,hlC]
     rotate_left 1
     go_simp
     obtain⟨b6,hb6⟩:∃bb,bb=wc.heap.size:=⟨_,rfl⟩
     have BA:Below wc.heap.size wc (wc.alloc (.cells #[.int .i64 0,.int .i64 0,.int .i64 0,.int .i64 0] 53)):=(ξb _ _).alloc (ξr _) _
     have H6:=ξn wc (.cells #[.int .i64 0,.int .i64 0,.int .i64 0,.int .i64 0] 53)
     have h60:w.heap.size≤b6:=by rw[hb6];exact CC.size
     have h6r:b6≠br:=by have:=(ξa HR.out).1;omega
     rw[←hb6] at H6 ⊢
     have H6:=ξh H6
     have HX:=ξh (ξA HX.out BA)
     have HR:=ξh (ξA HR.out BA)
     have HG:=ξh (ξA HG.out BA)
     have CC:=ξh (CC.below BA)
     clear hb6 BA
     generalize wc.alloc (.cells #[.int .i64 0,.int .i64 0,.int .i64 0,.int .i64 0] 53)=wn at *
     obtain⟨wc,hwc⟩:∃wc,wc=wn:=⟨_,rfl⟩
     subst hwc
     refine hKK.out _ _ (blkc HX.out rfl) (fun hH=> ?_)
     clear hKK KK
     try simp only[Act.put,hlA,hlB,hlC]
     have R20:True:=trivial
     rotate_left 1
   | have hD:True:=R20
     clear hD
     refine ξB (rs:=[8,15]) (by kernel_rfl) (by simp) ?_
     refine AllReadyL.cons rfl (fun KK hKK=> ?_) (AllReadyL.cons rfl (fun KK hKK=> ?_) AllReadyL.nil)
     go_simp
     go_at_call 72
     refine(ξX B c _ ((m1:Int)-1) _ CC.st (by omega) (by omega) (by omega)).mono ?_
     rintro e wn ⟨xp,p0,p1,rfl,hcA,-⟩
     have HX:=ξh (CC.blk2 hcA hn0 HX.out)
     have HR:=ξh (CC.blk2 hcA hr0 HR.out)
     skip
     have H6:=ξh (CC.blk2 hcA h60 H6.out)
     have CC:=ξh (CC.call hcA)
     have f3:IntKind.i64.wrap (A+1+xp)=A+1+xp:=ξi _ (by omega)
     clear hcA
     obtain⟨wc,hwc⟩:∃wc,wc=wn:=⟨_,rfl⟩
     subst hwc
     refine hKK.out _ _ (blkc HX.out rfl) (fun hH=> ?_)
     clear hKK KK
     try simp only[Act.put,hlA,hlB,hlC]
     have R8:True:=trivial
     refine hlF 9 rfl hH ?_
     try simp only[Act.put,hlA,hlB,hlC]
     refine hlF 13 rfl hH ?_
     try simp only[Act.put,hlA,hlB,hlC]
     rotate_left 1
     go_simp
     obtain⟨bg,hbg⟩:∃bb,bb=wc.heap.size:=⟨_,rfl⟩
     have BA:Below wc.heap.size wc (wc.alloc (.cells #[.int .i64 10,.int .i64 20,.int .i64 40,.int .i64 50,.int .i64 90,.int .i64 120] 3)):=(ξb _ _).alloc (ξr _) _
     have HG:=ξn wc (.cells #[.int .i64 10,.int .i64 20,.int .i64 40,.int .i64 50,.int .i64 90,.int .i64 120] 3)
     have hg0:w.heap.size≤bg:=by rw[hbg];exact CC.size
     have hgB:bg≠B:=by have:=CC.st.lt.1;omega
     rw[←hbg] at HG ⊢
     have HG:=ξh HG
     have HX:=ξh (ξA HX.out BA)
     have HR:=ξh (ξA HR.out BA)
     have H6:=ξh (ξA H6.out BA)
     have CC:=ξh (CC.below BA)
     clear hbg BA
     generalize wc.alloc (.cells #[.int .i64 10,.int .i64 20,.int .i64 40,.int .i64 50,.int .i64 90,.int .i64 120] 3)=wn at *
     obtain⟨wc,hwc⟩:∃wc,wc=wn:=⟨_,rfl⟩
     subst hwc
     refine hKK.out _ _ (blkc HX.out rfl) (fun hH=> ?_)
     clear hKK KK
     try simp only[Act.put,hlA,hlB,hlC]
     have R15:True:=trivial
     rotate_left 1
 all_goals
  first
   | have hD:True:=(fun _ _=>trivial:True→True→True) R8 R15
     clear hD
     refine ξB (rs:=[16,20]) (by kernel_rfl) (by simp) ?_
     refine AllReadyL.cons rfl (fun KK hKK=> ?_) (AllReadyL.cons rfl (fun KK hKK=> ?_) AllReadyL.nil)
     go_simp
     go_at_call 73
     refine(ξaw B c _ bg 6 6 10 120 _ CC.st (by omega) (by omega) (by omega) hgB (ξar HG.out rate_rng)).mono ?_
     rintro e wn ⟨xr,r0,r1,rfl,hcA,-⟩
     have HX:=ξh (CC.blk2 hcA hn0 HX.out)
     have HR:=ξh (CC.blk2 hcA hr0 HR.out)
     skip
     have CC:=ξh (CC.call hcA)
     clear hcA HG hg0 hgB
     obtain⟨wc,hwc⟩:∃wc,wc=wn:=⟨_,rfl⟩
     subst hwc
     refine hKK.out _ _ (blkc HX.out rfl) (fun hH=> ?_)
     clear hKK KK
     try simp only[Act.put,hlA,hlB,hlC]
     have R16:True:=trivial
     rotate_left 1
     go_simp
     obtain⟨b6,hb6⟩:∃bb,bb=wc.heap.size:=⟨_,rfl⟩
     have BA:Below wc.heap.size wc (wc.alloc (.cells #[.int .i64 0,.int .i64 0,.int .i64 0,.int .i64 0] 53)):=(ξb _ _).alloc (ξr _) _
     have H6:=ξn wc (.cells #[.int .i64 0,.int .i64 0,.int .i64 0,.int .i64 0] 53)
     have h60:w.heap.size≤b6:=by rw[hb6];exact CC.size
     have h6r:b6≠br:=by have:=(ξa HR.out).1;omega
     rw[←hb6] at H6 ⊢
     have H6:=ξh H6
     have HX:=ξh (ξA HX.out BA)
     have HR:=ξh (ξA HR.out BA)
     have HG:=ξh (ξA HG.out BA)
     have CC:=ξh (CC.below BA)
     clear hb6 BA
     generalize wc.alloc (.cells #[.int .i64 0,.int .i64 0,.int .i64 0,.int .i64 0] 53)=wn at *
     obtain⟨wc,hwc⟩:∃wc,wc=wn:=⟨_,rfl⟩
     subst hwc
     refine hKK.out _ _ (blkc HX.out rfl) (fun hH=> ?_)
     clear hKK KK
     try simp only[Act.put,hlA,hlB,hlC]
     have R20:True:=trivial
     rotate_left 1
   | have hD:True:=(fun _ _=>trivial:True→True→True) R8 R20
     clear hD
     refine ξB (rs:=[15]) (by kernel_rfl) (by simp) ?_
     refine AllReadyL.cons rfl (fun KK hKK=> ?_) AllReadyL.nil
     go_simp
     obtain⟨bg,hbg⟩:∃bb,bb=wc.heap.size:=⟨_,rfl⟩
     have BA:Below wc.heap.size wc (wc.alloc (.cells #[.int .i64 10,.int .i64 20,.int .i64 40,.int .i64 50,.int .i64 90,.int .i64 120] 3)):=(ξb _ _).alloc (ξr _) _
     have HG:=ξn wc (.cells #[.int .i64 10,.int .i64 20,.int .i64 40,.int .i64 50,.int .i64 90,.int .i64 120] 3)
     have hg0:w.heap.size≤bg:=by rw[hbg];exact CC.size
     have hgB:bg≠B:=by have:=CC.st.lt.1;omega
     rw[←hbg] at HG ⊢
     have HG:=ξh HG
     have HX:=ξh (ξA HX.out BA)
     have HR:=ξh (ξA HR.out BA)
     have H6:=ξh (ξA H6.out BA)
     have CC:=ξh (CC.below BA)
     clear hbg BA
     generalize wc.alloc (.cells #[.int .i64 10,.int .i64 20,.int .i64 40,.int .i64 50,.int .i64 90,.int .i64 120] 3)=wn at *
     obtain⟨wc,hwc⟩:∃wc,wc=wn:=⟨_,rfl⟩
     subst hwc
     refine hKK.out _ _ (blkc HX.out rfl) (fun hH=> ?_)
     clear hKK KK
     try simp only[Act.put,hlA,hlB,hlC]
     have R15:True:=trivial
   | have hD:True:=(fun _ _=>trivial:True→True→True) R15 R20
     clear hD
     refine ξB (rs:=[8]) (by kernel_rfl) (by simp) ?_
     refine AllReadyL.cons rfl (fun KK hKK=> ?_) AllReadyL.nil
     go_simp
     go_at_call 72
     refine(ξX B c _ ((m1:Int)-1) _ CC.st (by omega) (by omega) (by omega)).mono ?_
     rintro e wn ⟨xp,p0,p1,rfl,hcA,-⟩
     have HX:=ξh (CC.blk2 hcA hn0 HX.out)
     have HR:=ξh (CC.blk2 hcA hr0 HR.out)
     have HG:=ξh (CC.blk2 hcA hg0 HG.out)
     have H6:=ξh (CC.blk2 hcA h60 H6.out)
     have CC:=ξh (CC.call hcA)
     have f3:IntKind.i64.wrap (A+1+xp)=A+1+xp:=ξi _ (by omega)
     clear hcA
     obtain⟨wc,hwc⟩:∃wc,wc=wn:=⟨_,rfl⟩
     subst hwc
     refine hKK.out _ _ (blkc HX.out rfl) (fun hH=> ?_)
     clear hKK KK
     try simp only[Act.put,hlA,hlB,hlC]
     have R8:True:=trivial
     refine hlF 9 rfl hH ?_
     try simp only[Act.put,hlA,hlB,hlC]
     refine hlF 13 rfl hH ?_
     try simp only[Act.put,hlA,hlB,hlC]
 all_goals
  first
   | have hD:True:=(fun _ _ _=>trivial:True→True→True→True) R8 R15 R16
     clear hD
     refine ξB (rs:=[18,20]) (by kernel_rfl) (by simp) ?_
     refine AllReadyL.cons rfl (fun KK hKK=> ?_) (AllReadyL.cons rfl (fun KK hKK=> ?_) AllReadyL.nil)
     go_simp
     go_at_call 72
     refine(ξX B c _ 3 _ CC.st (by omega) (by omega) (by omega)).mono ?_
     rintro e wn ⟨xk,q0,q1,rfl,hcA,-⟩
     have HX:=ξh (CC.blk2 hcA hn0 HX.out)
     have HR:=ξh (CC.blk2 hcA hr0 HR.out)
     skip
     skip
     have CC:=ξh (CC.call hcA)
     clear hcA
     obtain⟨wc,hwc⟩:∃wc,wc=wn:=⟨_,rfl⟩
     subst hwc
     refine hKK.out _ _ (blkc HX.out rfl) (fun hH=> ?_)
     clear hKK KK
     try simp only[Act.put,hlA,hlB,hlC]
     have R18:True:=trivial
     refine hlF 19 rfl hH ?_
     try simp only[Act.put,hlA,hlB,hlC]
     rotate_left 1
     go_simp
     obtain⟨b6,hb6⟩:∃bb,bb=wc.heap.size:=⟨_,rfl⟩
     have BA:Below wc.heap.size wc (wc.alloc (.cells #[.int .i64 0,.int .i64 0,.int .i64 0,.int .i64 0] 53)):=(ξb _ _).alloc (ξr _) _
     have H6:=ξn wc (.cells #[.int .i64 0,.int .i64 0,.int .i64 0,.int .i64 0] 53)
     have h60:w.heap.size≤b6:=by rw[hb6];exact CC.size
     have h6r:b6≠br:=by have:=(ξa HR.out).1;omega
     rw[←hb6] at H6 ⊢
     have H6:=ξh H6
     have HX:=ξh (ξA HX.out BA)
     have HR:=ξh (ξA HR.out BA)
     skip
     have CC:=ξh (CC.below BA)
     clear hb6 BA
     generalize wc.alloc (.cells #[.int .i64 0,.int .i64 0,.int .i64 0,.int .i64 0] 53)=wn at *
     obtain⟨wc,hwc⟩:∃wc,wc=wn:=⟨_,rfl⟩
     subst hwc
     refine hKK.out _ _ (blkc HX.out rfl) (fun hH=> ?_)
     clear hKK KK
     try simp only[Act.put,hlA,hlB,hlC]
     have R20:True:=trivial
     rotate_left 1
   | have hD:True:=(fun _ _ _=>trivial:True→True→True→True) R8 R15 R20
     clear hD
     refine ξB (rs:=[16]) (by kernel_rfl) (by simp) ?_
     refine AllReadyL.cons rfl (fun KK hKK=> ?_) AllReadyL.nil
     go_simp
     go_at_call 73
     refine(ξaw B c _ bg 6 6 10 120 _ CC.st (by omega) (by omega) (by omega) hgB (ξar HG.out rate_rng)).mono ?_
     rintro e wn ⟨xr,r0,r1,rfl,hcA,-⟩
     have HX:=ξh (CC.blk2 hcA hn0 HX.out)
     have HR:=ξh (CC.blk2 hcA hr0 HR.out)
     have H6:=ξh (CC.blk2 hcA h60 H6.out)
     have CC:=ξh (CC.call hcA)
     clear hcA HG hg0 hgB
     obtain⟨wc,hwc⟩:∃wc,wc=wn:=⟨_,rfl⟩
     subst hwc
     refine hKK.out _ _ (blkc HX.out rfl) (fun hH=> ?_)
     clear hKK KK
     try simp only[Act.put,hlA,hlB,hlC]
     have R16:True:=trivial
 all_goals
  first
   | have hD:True:=(fun _ _ _ _=>trivial:True→True→True→True→True) R8 R15 R16 R18
     clear hD
     refine ξB (rs:=[20]) (by kernel_rfl) (by simp) ?_
     refine AllReadyL.cons rfl (fun KK hKK=> ?_) AllReadyL.nil
     go_simp
     obtain⟨b6,hb6⟩:∃bb,bb=wc.heap.size:=⟨_,rfl⟩
     have BA:Below wc.heap.size wc (wc.alloc (.cells #[.int .i64 0,.int .i64 0,.int .i64 0,.int .i64 0] 53)):=(ξb _ _).alloc (ξr _) _
     have H6:=ξn wc (.cells #[.int .i64 0,.int .i64 0,.int .i64 0,.int .i64 0] 53)
     have h60:w.heap.size≤b6:=by rw[hb6];exact CC.size
     have h6r:b6≠br:=by have:=(ξa HR.out).1;omega
     rw[←hb6] at H6 ⊢
     have H6:=ξh H6
     have HX:=ξh (ξA HX.out BA)
     have HR:=ξh (ξA HR.out BA)
     skip
     have CC:=ξh (CC.below BA)
     clear hb6 BA
     generalize wc.alloc (.cells #[.int .i64 0,.int .i64 0,.int .i64 0,.int .i64 0] 53)=wn at *
     obtain⟨wc,hwc⟩:∃wc,wc=wn:=⟨_,rfl⟩
     subst hwc
     refine hKK.out _ _ (blkc HX.out rfl) (fun hH=> ?_)
     clear hKK KK
     try simp only[Act.put,hlA,hlB,hlC]
     have R20:True:=trivial
   | have hD:True:=(fun _ _ _ _=>trivial:True→True→True→True→True) R8 R15 R16 R20
     clear hD
     refine ξB (rs:=[18]) (by kernel_rfl) (by simp) ?_
     refine AllReadyL.cons rfl (fun KK hKK=> ?_) AllReadyL.nil
     go_simp
     go_at_call 72
     refine(ξX B c _ 3 _ CC.st (by omega) (by omega) (by omega)).mono ?_
     rintro e wn ⟨xk,q0,q1,rfl,hcA,-⟩
     have HX:=ξh (CC.blk2 hcA hn0 HX.out)
     have HR:=ξh (CC.blk2 hcA hr0 HR.out)
     skip
     have H6:=ξh (CC.blk2 hcA h60 H6.out)
     have CC:=ξh (CC.call hcA)
     clear hcA
     obtain⟨wc,hwc⟩:∃wc,wc=wn:=⟨_,rfl⟩
     subst hwc
     refine hKK.out _ _ (blkc HX.out rfl) (fun hH=> ?_)
     clear hKK KK
     try simp only[Act.put,hlA,hlB,hlC]
     have R18:True:=trivial
     refine hlF 19 rfl hH ?_
     try simp only[Act.put,hlA,hlB,hlC]
 all_goals
  refine ξG 21 rfl (by kernel_rfl) (by kernel_rfl) (fun KK hKK=> ?_)
  have y60:=blkc H6.out (j:=0) (u:= .int .i64 0) rfl
  have y61:=blkc H6.out (j:=1) (u:= .int .i64 0) rfl
  have y62:=blkc H6.out (j:=2) (u:= .int .i64 0) rfl
  have y63:=blkc H6.out (j:=3) (u:= .int .i64 0) rfl
  have z60:wc.frozen? ⟨b6,0,none⟩=false:=ξz _ _ _ _ _ H6.out
  have z61:wc.frozen? ⟨b6,1,none⟩=false:=ξz _ _ _ _ _ H6.out
  have z62:wc.frozen? ⟨b6,2,none⟩=false:=ξz _ _ _ _ _ H6.out
  have z63:wc.frozen? ⟨b6,3,none⟩=false:=ξz _ _ _ _ _ H6.out
  go_simp
  refine hKK.out _ _ ?_
  clear hKK KK
  try simp only[Act.put,hlA,hlB,hlC]
  refine ξS (by kernel_rfl) ?_ _
 all_goals
  have s0:=ξe wc b6 0 _ _ (.int .i64 A) H6.out
  have s1:=ξe _ b6 1 _ _ (.int .i64 ((A+1+xp).tmod m1)) s0
  have s2:=ξe _ b6 2 _ _ (.int .i64 xr) s1
  have s3:=ξe _ b6 3 _ _ (.int .i64 xk) s2
  exact HT bg b6 _ xp xr xk _ h60 h6r ((((CC.set (b:=b6) (j:=0) h60 (.int .i64 A)).set (b:=b6) (j:=1) h60 (.int .i64 ((A+1+xp).tmod m1))).set (b:=b6) (j:=2) h60 (.int .i64 xr)).set (b:=b6) (j:=3) h60 (.int .i64 xk)) s3
   ((ξm _ ⟨b6,3,none⟩ br _ (fun e=>h6r e.symm)).trans ((ξm _ ⟨b6,2,none⟩ br _ (fun e=>h6r e.symm)).trans ((ξm _ ⟨b6,1,none⟩ br _ (fun e=>h6r e.symm)).trans ((ξm wc ⟨b6,0,none⟩ br _ (fun e=>h6r e.symm)).trans HR.out))))
theorem Tryz.infoDemD:(Tryz.prog.info? 53).map (fun i=>(i.zero,i.size,i.bytes))=some (some (.agg #[.int .i64 0,.int .i64 0,.int .i64 0,.int .i64 0]),4,32):=by kernel_rfl
theorem Tryz.infoGroD:(Tryz.prog.info? 55).map (fun i=>(i.zero,i.size,i.bytes))=some (some (.agg #[.int .i64 0,.int .i64 0,.int .i64 0,.int .i64 0,.int .i64 0,.int .i64 0]),6,48):=by kernel_rfl
def dmE4 (d:Dem):List Value:=[.int .i64 d.a,.int .i64 d.b,.int .i64 d.r,.int .i64 d.c]
def nilDm:Dem:=⟨0,0,0,0⟩
def SrR {α:Type} (T:TypeId) (m:Nat) (en:α→List Value) (w:World) (base:Nat) (v:Value) (zs:List α):Prop:=w.ownsRow base T m v zs.length (zs.flatMap en)
section
variable {α : Type} {T : TypeId} {m : Nat} {en : α → List Value} {w w' w1 w2 : World} {base b' B K : Nat} {c v : Value} {zs : List α}
theorem SrR.kept (h:SrR T m en w base v zs) (hk:∀g,v.ownBlock=some g→w'.heap[g]?= w.heap[g]?):SrR T m en w' base v zs:=row_kept0 h hk
theorem SrR.lt (h:SrR T m en w base v zs):∀g,v.ownBlock=some g→base≤g∧g<w.heap.size:=World.ownsRow.lt h
theorem SrR.below (h:SrR T m en w base v zs) (hb:Below w.heap.size w w'):SrR T m en w' base v zs:=h.kept fun g hg=>hb.block g (h.lt g hg).2
theorem SrR.cs (h:SrR T m en w1 base v zs) (hB:B<base) (hc:CS w1 B c K w2):SrR T m en w2 base v zs:=
 h.kept fun g hg=>hc.2.2.block g (h.lt g hg).2 fun e=>by have:=(h.lt g hg).1;have:=ξo e;omega
theorem SrR.lower (h:SrR T m en w base v zs) (hb:b'≤base):SrR T m en w b' v zs:=
 ⟨h.1,h.2.imp id fun⟨g,cap,cur,k1,k2,k3⟩=>⟨g,cap,cur,k1,ξs hb k2,k3⟩⟩
theorem SrR.snoc {z:α} (h:w.ownsRow base T m v (zs.length+1) (zs.flatMap en++en z)):SrR T m en w base v (zs++[z]):=by
 unfold SrR
 rw[ξk,List.flatMap_append]
 simpa using h
theorem SrR.rd (h:SrR T m en w base v zs):Rdt w (flt m en zs) v:=(ξbY h).rd
theorem SrR.start (T:TypeId) (m:Nat) (en:α→List Value) (w:World):SrR T m en (w.alloc (.cells #[] T)) w.heap.size (.slice (some ⟨w.heap.size,0,none⟩) 0 0) ([]:List α):=World.ownsRow_made w #[] 0 (ξr _) (ξu _) (by simp)
theorem SrR.form (h:SrR T m en w base v zs):∃a c,v= .slice a zs.length c:=row_form0 h
end
abbrev DmR:=SrR (α:=Dem) 53 4 dmE4
abbrev GwR:=SrR (α:=Gro) 55 6 groE
theorem dmE4_one (z:Dem):∀u∈dmE4 z,u.oneCell'=true:=by intro u hu;simp[dmE4] at hu;rcases hu with rfl | rfl | rfl | rfl <;> rfl
theorem groE_oneD (z:Gro):∀u∈groE z,u.oneCell'=true:=by intro u hu;simp[groE] at hu;rcases hu with rfl | rfl | rfl | rfl | rfl | rfl <;> rfl
def DsP (w:World) (B:Nat) (c:Value) (K:Nat) (e:Ending) (w':World):Prop:=∃v zs,e= .returned v∧DmR w' w.heap.size v zs∧zs.length≤14∧CS w B c (K+400) w'
def lenD:Value→Nat
 | .slice _ n _=>n
 | _=>0
theorem demands_any (B:Nat) (c:Value) (K:Nat) (a1 a2:Option Addr) (m1 c1 m2 c2:Nat) (w:World) (h:Cs w B c K) (hk:K≤1000000000000000) (h2:2≤m1) (h16:m1≤16):
 Calls Tryz.prog 123 #[ptr B,.agg #[.slice a1 m1 c1,.slice a2 m2 c2]] w (DsP w B c K):=by
 have hBw:=h.lt.1
 obtain⟨NP,hNP⟩:∃NP,NP=DsP w B c K:=⟨_,rfl⟩
 rw[←hNP]
 have ha1:=(ξb w.heap.size w).alloc (ξr _) (.cells #[.slice a1 m1 c1,.slice a2 m2 c2] 35)
 have X1:=ξn w (.cells #[.slice a1 m1 c1,.slice a2 m2 c2] 35)
 have hz1:(w.alloc (.cells #[.slice a1 m1 c1,.slice a2 m2 c2] 35)).heap.size=w.heap.size+1:=by simp
 have R1:=SrR.start 53 4 dmE4 (w.alloc (.cells #[.slice a1 m1 c1,.slice a2 m2 c2] 35))
 rw[hz1] at R1
 have C1:=ξh ((h.here.alloc (.cells #[.slice a1 m1 c1,.slice a2 m2 c2] 35)).alloc (.cells #[] 53))
 have X2:=ξh ((heap_alloc_old _ (.cells #[] 53) (by simp)).trans X1)
 have R2:=ξh R1
 clear h hz1 X1 R1 ha1
 go_enter Tryz.func123,Tryz.ntmps123
 go_upto_region 2 with fail
 generalize (w.alloc (.cells #[.slice a1 m1 c1,.slice a2 m2 c2] 35)).alloc (.cells #[] 53)=w1 at *
 obtain⟨bn,hbn⟩:∃bn,bn=w.heap.size:=⟨_,rfl⟩
 have hn0:w.heap.size≤bn:=by omega
 have R2:=ξh (show DmR w1 (w.heap.size+1) (.slice (some ⟨w.heap.size+1,0,none⟩) 0 0) [] from R2.out)
 generalize (some (⟨w.heap.size+1,0,none⟩:Addr))=a5 at *
 rw[←hbn] at X2 ⊢
 have hb1:bn<w.heap.size+1:=by omega
 clear hbn
 go_wp2_with fail
 refine(ξX B c _ 6 _ C1.st (by omega) (by omega) (by omega)).mono ?_
 rintro e w2 ⟨xk,xk0,xk1,rfl,hc2,-⟩
 have CC:=ξh (C1.call hc2)
 have HX:=ξh (C1.blk2 hc2 hn0 X2.out)
 have RR:=ξh (R2.cs (by omega) hc2)
 obtain⟨k,rfl⟩:=Int.eq_ofNat_of_zero_le xk0
 have hk6:k≤5:=by omega
 clear C1 X2 R2 hc2 xk0 xk1
 go_wp2_with fail
 go_loopw [5,6] (fun s5 s6 wr=>∃(k:Nat) (zs:List Dem),k≤5∧s6= .int .i64 k∧zs.length+k≤5∧Hid (DmR wr (w.heap.size+1) s5 zs)∧Hid (wr.heap[bn]?= some (.cells #[.slice a1 m1 c1,.slice a2 m2 c2] 35 (0,0)))∧Hid (CS w B c (K+300-50*k) wr)) (fun _ s6 _=>(intOf s6).toNat)
 case atStart=>exact⟨k,[],hk6,rfl,by simpa using hk6,RR.out,HX.out,CC.mono (by omega)⟩
 case round=>
  clear RR HX CC hk6
  obtain⟨k,zs,hk6,rfl,hzk,RR,HX,CC⟩:=hrel
  by_cases hlt:0<k
  · have hltI:(0:Int)<(k:Int):=by omega
    have hwk:IntKind.i64.wrap ((k:Int)-1)=((k-1:Nat):Int):=by rw[ξi _ (by omega)];omega
    have hwk2:wrap64 ((k:Int)-1)=((k-1:Nat):Int):=by rw[ξw _ (by omega)];omega
    have y0:=blkc HX.out (j:=0) (u:= .slice a1 m1 c1) rfl
    have y1:=blkc HX.out (j:=1) (u:= .slice a2 m2 c2) rfl
    obtain⟨a5,c5,hv⟩:=RR.form
    subst hv
    go_wp2_with fail
    refine(demand_any B c _ a1 a2 m1 c1 m2 c2 _ CC.st (by omega) h2 h16).mono ?_
    rintro e wB ⟨d,rfl,hcB⟩
    have CB:=ξh (CC.call hcB)
    have HB:=ξh (CC.blk2 hcB hn0 HX.out)
    have RB:=ξh ((RR.cs (by omega) hcB).lower (show w.heap.size≤w.heap.size+1 by omega))
    have HNE:=ξh (show∀g,(Value.slice a5 zs.length c5).ownBlock=some g→g≠bn from fun g hg=>by have:=(RR.lt g hg).1;omega)
    have HLO:=ξh (show∀g,(Value.slice a5 zs.length c5).ownBlock=some g→w.heap.size+1≤g from fun g hg=>(RR.lt g hg).1)
    have hblt:bn<wB.heap.size:=(ξa HB.out).1
    have hsB:=CB.size
    have hsa:w.heap.size≤(wB.alloc (.cells #[.int .i64 d.a,.int .i64 d.b,.int .i64 d.r,.int .i64 d.c] 53)).heap.size:=by simp;omega
    have hdv:demV d= .agg #[.int .i64 d.a,.int .i64 d.b,.int .i64 d.r,.int .i64 d.c]:=rfl
    rw[hdv]
    clear RR HX CC hcB y0 y1 hdv
    go_wp2_with (at_builtin;(refine wpList_catG rfl (.tmp 14) (.tmp 18) 156 53 rfl Tryz.underlying156 (.agg #[.int .i64 0,.int .i64 0,.int .i64 0,.int .i64 0]) 4 32 Tryz.infoDemD rfl (by decide) w.heap.size _ _ (zs.flatMap dmE4) (by rfl) (RB.below ((ξb _ _).alloc (ξr _) (.cells #[.int .i64 d.a,.int .i64 d.b,.int .i64 d.r,.int .i64 d.c] 53))) (some ⟨wB.heap.size,0,none⟩) 1 1 (dmE4 d) (by rfl) rfl (fun e=>nomatch e) (fun ad e j u hu=>by cases e;exact World.news_of_block (ξn wB (.cells #[.int .i64 d.a,.int .i64 d.b,.int .i64 d.r,.int .i64 d.c] 53)) j u hu) (dmE4_one _) (by unfold maxLen;omega) (by omega) hsa ?_);(intro v8 w8 o8 g8 l8);(have C8:=ξh ((CB.alloc (.cells #[.int .i64 d.a,.int .i64 d.b,.int .i64 d.r,.int .i64 d.c] 53)).grown g8 fun g hg=>(RB.lt g hg).1));(have R8:=ξh (SrR.snoc (en:=dmE4) o8));(have H8:=ξh (show w8.heap[bn]?= some (.cells #[.slice a1 m1 c1,.slice a2 m2 c2] 35 (0,0)) from(g8.block bn (by simp;omega) (fun e=>HNE.out bn e.symm rfl)).trans ((heap_alloc_old wB _ hblt).trans HB.out))))
    have R9:=ξh (show DmR w8 (w.heap.size+1) v8 (zs++[d]) from⟨R8.1,R8.2.imp id fun⟨g,cap,cur,k1,k2,k3⟩=>⟨g,cap,cur,k1,by
     rcases l8 with e | e
     · exact HLO.out g (by rw[←e,k1];rfl)
     · have:g=(wB.alloc (.cells #[.int .i64 d.a,.int .i64 d.b,.int .i64 d.r,.int .i64 d.c] 53)).heap.size:=by rw[k1] at e;exact ξo e
       rw[this];simp;omega,k3⟩⟩)
    clear R8 o8 g8 l8 RB HB HNE HLO
    go_wp2_with fail
    go_roundw
    case rel=>exact⟨k-1,zs++[d],by omega,by go_num,by rw[ξk,List.length_singleton];omega,R9.out,H8.out,C8.mono (by omega)⟩
    case measure=>simp[intOf];omega
  · obtain rfl:k=0:=by omega
    obtain⟨a5,c5,hv⟩:=RR.form
    subst hv
    go_wp2_with fail
    refine(oneC B c _ 24 _ CC.st (by omega) (by omega) (by omega)).mono ?_
    rintro e w4 ⟨b,rfl,hc4,-⟩
    have C4:=ξh (CC.call hc4)
    have R4:=ξh ((RR.cs (by omega) hc4).lower (show w.heap.size≤w.heap.size+1 by omega))
    have hzl:zs.length≤5:=by omega
    clear RR HX CC hc4
    cases b
    · go_wp2_with fail
      subst hNP
      exact⟨_,zs,rfl,R4.out,by omega,C4.mono (by omega)⟩
    · go_wp2_with fail
      go_loopw [5] (fun s5 wr=>∃(zs:List Dem),zs.length≤13∧Hid (DmR wr w.heap.size s5 zs)∧Hid (CS w B c (K+310+2*zs.length) wr)) (fun s5 _=>14-lenD s5)
      case atStart=>exact⟨zs,by omega,R4.out,C4.mono (by omega)⟩
      case round=>
       clear R4 C4 hzl hzk
       obtain⟨zs,hz,RR,CC⟩:=hrel
       obtain⟨aa,ca,hv⟩:=RR.form
       subst hv
       have HLZ:=ξh (show zs.length=zs.length from rfl)
       go_wp2_with fail
       refine(ξX B c _ 2 wr CC.st (by omega) (by omega) (by omega)).mono ?_
       rintro e wB ⟨y,y0,y1,rfl,hcB,-⟩
       have CB:=ξh (CC.call hcB)
       have RB:=ξh (RR.cs hBw hcB)
       have hsB:=CB.size
       have hwy:IntKind.i64.wrap (12+y)=12+y:=ξi _ (by omega)
       clear CC RR hcB
       by_cases hlt:(zs.length:Int)<12+y
       · have hsa:w.heap.size≤(wB.alloc (.cells #[.int .i64 0,.int .i64 1,.int .i64 5,.int .i64 0] 53)).heap.size:=by simp;omega
         go_wp2_with (at_builtin;(refine wpList_catG rfl (.tmp 28) (.tmp 30) 156 53 rfl Tryz.underlying156 (.agg #[.int .i64 0,.int .i64 0,.int .i64 0,.int .i64 0]) 4 32 Tryz.infoDemD rfl (by decide) w.heap.size _ _ (zs.flatMap dmE4) (by rfl) (RB.below ((ξb _ _).alloc (ξr _) (.cells #[.int .i64 0,.int .i64 1,.int .i64 5,.int .i64 0] 53))) (some ⟨wB.heap.size,0,none⟩) 1 1 (dmE4 ⟨0,1,5,0⟩) (by rfl) rfl (fun e=>nomatch e) (fun ad e j u hu=>by cases e;exact World.news_of_block (ξn wB (.cells #[.int .i64 0,.int .i64 1,.int .i64 5,.int .i64 0] 53)) j u hu) (dmE4_one _) (by unfold maxLen;omega) (by omega) hsa ?_);(intro v8 w8 o8 g8 l8);(have C8:=ξh ((CB.alloc (.cells #[.int .i64 0,.int .i64 1,.int .i64 5,.int .i64 0] 53)).grown g8 fun g hg=>(RB.lt g hg).1));(have R8:=ξh (SrR.snoc (en:=dmE4) (z:=⟨0,1,5,0⟩) o8)))
         obtain⟨a8,c8,hv8⟩:=R8.form
         subst hv8
         clear o8 g8 l8 CB RB
         go_wp2_with fail
         go_roundw
         case rel=>exact⟨_,by rw[ξk,List.length_singleton];omega,R8.out,C8.mono (by rw[ξk,List.length_singleton];omega)⟩
         case measure=>simp[lenD];omega
       · go_wp2_with fail
         subst hNP
         exact⟨_,zs,rfl,RB.out,by omega,CB.mono (by omega)⟩
end Go.Proofs.YtofcicomhnkocaaGreat
