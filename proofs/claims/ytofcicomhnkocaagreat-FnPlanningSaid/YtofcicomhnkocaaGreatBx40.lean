import Derived.Test.YtofcicomhnkocaaGreatBx39
set_option linter.unusedVariables false
namespace Go.Proofs.YtofcicomhnkocaaGreat
set_option maxHeartbeats 3200000
open Go.RowKit Go.Sort
set_option maxRecDepth 100000
theorem isLight_any (u1 u2 v:Value) (n:Net) (x:Lgt) (w:World) (h:NetR w (.agg #[u1,u2]) n) (hr:Rd w v x.fb) (hl:x.fb.length≤1100000):
 Calls Tryz.prog 91 #[.agg #[u1,u2],.agg #[.int .i64 x.id,.int .i64 x.st,v,.int .i64 x.fi,.int .i64 x.ct]] w fun e w'=>e= .returned (.bool (ξah n x))∧Below w.heap.size w w':=by
 have HV:=ξh (fun w' (hb:Below w.heap.size w w')=>visited_any u1 u2 v n ⟨x.st,x.fb⟩ w' (h.behind hb) (hr.belowAll hb) hl)
 obtain⟨⟨a1,m1,c1,rfl⟩,a2,m2,c2,rfl⟩:=ξF h
 obtain⟨a3,c3,m3,-,rfl,-,-,-⟩:=hr.opn
 have HF:=ξh (show ξah n x=((rouN n ⟨x.st,x.fb⟩).isSome&&inB x.id 1 999&&ξac x.fi x.ct) from rfl)
 obtain⟨bx,bc,blt,-⟩:=ξD w #[.slice a1 m1 c1,.slice a2 m2 c2] 35
 obtain⟨by',bd,bmt,-⟩:=ξD (w.alloc (.cells #[.slice a1 m1 c1,.slice a2 m2 c2] 35)) #[.int .i64 x.id,.int .i64 x.st,.slice a3 m3 c3,.int .i64 x.fi,.int .i64 x.ct] 86
 have q0:=(by'.cell (p:=⟨w.heap.size,0,none⟩) blt).trans (bc 0 _ rfl)
 have q1:=(by'.cell (p:=⟨w.heap.size,1,none⟩) blt).trans (bc 1 _ rfl)
 have l0:=bd 0 _ rfl
 have l1:=bd 1 _ rfl
 have l2:=bd 2 _ rfl
 have l3:=bd 3 _ rfl
 have l4:=bd 4 _ rfl
 have hs1:(w.alloc (.cells #[.slice a1 m1 c1,.slice a2 m2 c2] 35)).heap.size=w.heap.size+1:=by simp
 rw[hs1] at l0 l1 l2 l3 l4 bmt
 have HBX:=ξh (bx.trans (by'.mono bx.size))
 clear bc bd bx by' hs1 blt h hr
 generalize ξah n x=q at *
 go_enter Tryz.func91,Tryz.ntmps91
 go_wp2_with fail
 generalize (w.alloc (.cells #[.slice a1 m1 c1,.slice a2 m2 c2] 35)).alloc (.cells #[.int .i64 x.id,.int .i64 x.st,.slice a3 m3 c3,.int .i64 x.fi,.int .i64 x.ct] 86)=w2 at *
 refine(HV.out w2 HBX.out).mono ?_
 rintro e w3 ⟨v',rfl,-,⟨a4,m4,c4,rfl⟩,b3⟩
 have p0:=(b3.cell bmt).trans l0
 have p3:=(b3.cell bmt).trans l3
 have p4:=(b3.cell bmt).trans l4
 have HB3:=ξh (HBX.trans (b3.mono HBX.size))
 clear b3 l0 l1 l2 l3 l4 q0 q1 HV
 generalize (rouN n ⟨x.st,x.fb⟩).isSome=o at *
 have HIN:=ξh (fun w=>ξE x.id 1 999 w)
 have HBK:=ξh (fun w=>ξcE x.fi x.ct w)
 generalize inB x.id 1 999=i at *
 generalize ξac x.fi x.ct=k at *
 cases o
 · go_wp2
   go_ret
   exact⟨by rw[HF.out];rfl,HB3.out⟩
 cases i
 · go_wp2_with (go_at_call 74;refine(HIN.out _).mono ?_;rintro e w' ⟨rfl,rfl⟩)
   go_ret
   exact⟨by rw[HF.out];rfl,HB3.out⟩
 go_wp2_with (go_at_call 74;refine(HIN.out _).mono ?_;rintro e w' ⟨rfl,rfl⟩)
 refine(HBK.out _).mono ?_
 rintro e w4 ⟨rfl,b4⟩
 have HB4:=ξh (HB3.trans (b4.mono HB3.size))
 clear b4
 go_wp2
 go_ret
 exact⟨by rw[HF.out];rfl,HB4.out⟩
theorem l4Good_any (u1 u2 v:Value) (n:Net) (r:Rou) (w:World) (h:NetR w (.agg #[u1,u2]) n) (hok:ξL n=true) (hr:Rd w v r.fb) (hl:r.fb.length≤1100000):
 Calls Tryz.prog 181 #[.agg #[u1,u2],.agg #[.int .i64 r.st,v]] w fun e w'=>e= .returned (.bool (rouOk n r))∧Below w.heap.size w w':=by
 have HV:=ξh (fun w' (hb:Below w.heap.size w w')=>l4Walk_any u1 u2 v n r w' (h.behind hb) (hr.belowAll hb) hl)
 have HG:=ξh (fun w' (hb:Below w.heap.size w w')=>ξbq _ n w' (h.behind hb))
 rw[hok] at HG
 obtain⟨⟨a1,m1,c1,rfl⟩,a2,m2,c2,rfl⟩:=ξF h
 obtain⟨a3,c3,m3,-,rfl,-,-,-⟩:=hr.opn
 obtain⟨bx,bc,blt,-⟩:=ξD w #[.slice a1 m1 c1,.slice a2 m2 c2] 35
 obtain⟨by',bd,bmt,-⟩:=ξD (w.alloc (.cells #[.slice a1 m1 c1,.slice a2 m2 c2] 35)) #[.int .i64 r.st,.slice a3 m3 c3] 82
 have q0:=(by'.cell (p:=⟨w.heap.size,0,none⟩) blt).trans (bc 0 _ rfl)
 have q1:=(by'.cell (p:=⟨w.heap.size,1,none⟩) blt).trans (bc 1 _ rfl)
 have l0:=bd 0 _ rfl
 have l1:=bd 1 _ rfl
 have hs1:(w.alloc (.cells #[.slice a1 m1 c1,.slice a2 m2 c2] 35)).heap.size=w.heap.size+1:=by simp
 rw[hs1] at l0 l1 bmt
 have blt2:=ξq blt by'.size
 have HBX:=ξh (bx.trans (by'.mono bx.size))
 clear bc bd bx by' hs1 blt h hr hok
 unfold rouOk
 generalize rouN n r=o at *
 go_enter Tryz.func181,Tryz.ntmps181
 go_wp2_with fail
 generalize (w.alloc (.cells #[.slice a1 m1 c1,.slice a2 m2 c2] 35)).alloc (.cells #[.int .i64 r.st,.slice a3 m3 c3] 82)=w2 at *
 refine(HG.out w2 HBX.out).mono ?_
 rintro e w3 ⟨rfl,b3⟩
 have p0:=(b3.cell blt2).trans q0
 have p1:=(b3.cell blt2).trans q1
 have p2:=(b3.cell bmt).trans l0
 have p3:=(b3.cell bmt).trans l1
 have HB3:=ξh (HBX.trans (b3.mono HBX.size))
 clear b3 l0 l1 q0 q1 HG
 go_wp2_with fail
 refine(HV.out w3 HB3.out).mono ?_
 rintro e w4 ⟨v',rfl,-,⟨a4,m4,c4,rfl⟩,b4⟩
 have HB4:=ξh (HB3.trans (b4.mono HB3.size))
 clear b4
 go_wp2
 go_ret
 exact⟨rfl,HB4.out⟩
theorem l9Light_any (u1 u2 v:Value) (n:Net) (x:Lgt) (w:World) (h:NetR w (.agg #[u1,u2]) n) (hok:ξL n=true) (hr:Rd w v x.fb) (hl:x.fb.length≤1100000):
 Calls Tryz.prog 144 #[.agg #[u1,u2],.agg #[.int .i64 x.id,.int .i64 x.st,v,.int .i64 x.fi,.int .i64 x.ct]] w fun e w'=>e= .returned (.bool (ξah n x))∧Below w.heap.size w w':=by
 have HV:=ξh (fun w' (hb:Below w.heap.size w w')=>l4Good_any u1 u2 v n ⟨x.st,x.fb⟩ w' (h.behind hb) hok (hr.belowAll hb) hl)
 obtain⟨⟨a1,m1,c1,rfl⟩,a2,m2,c2,rfl⟩:=ξF h
 obtain⟨a3,c3,m3,-,rfl,-,-,-⟩:=hr.opn
 have HF:=ξh (show ξah n x=(rouOk n ⟨x.st,x.fb⟩&&inB x.id 1 999&&ξac x.fi x.ct) from rfl)
 obtain⟨bx,bc,blt,-⟩:=ξD w #[.slice a1 m1 c1,.slice a2 m2 c2] 35
 obtain⟨by',bd,bmt,-⟩:=ξD (w.alloc (.cells #[.slice a1 m1 c1,.slice a2 m2 c2] 35)) #[.int .i64 x.id,.int .i64 x.st,.slice a3 m3 c3,.int .i64 x.fi,.int .i64 x.ct] 86
 have q0:=(by'.cell (p:=⟨w.heap.size,0,none⟩) blt).trans (bc 0 _ rfl)
 have q1:=(by'.cell (p:=⟨w.heap.size,1,none⟩) blt).trans (bc 1 _ rfl)
 have l0:=bd 0 _ rfl
 have l1:=bd 1 _ rfl
 have l2:=bd 2 _ rfl
 have l3:=bd 3 _ rfl
 have l4:=bd 4 _ rfl
 have hs1:(w.alloc (.cells #[.slice a1 m1 c1,.slice a2 m2 c2] 35)).heap.size=w.heap.size+1:=by simp
 rw[hs1] at l0 l1 l2 l3 l4 bmt
 have HBX:=ξh (bx.trans (by'.mono bx.size))
 clear bc bd bx by' hs1 blt h hr hok
 generalize ξah n x=q at *
 generalize rouOk n ⟨x.st,x.fb⟩=o at *
 have HIN:=ξh (fun w=>ξI x.id 1 999 w)
 have HBK:=ξh (fun w=>l8Good_any x.fi x.ct w)
 generalize inB x.id 1 999=i at *
 generalize ξac x.fi x.ct=k at *
 go_enter Tryz.func144,Tryz.ntmps144
 cases i
 · go_wp2_with (go_at_call 77;refine(HIN.out _).mono ?_;rintro e w' ⟨rfl,rfl⟩)
   go_ret
   exact⟨by rw[HF.out];cases o <;> rfl,HBX.out⟩
 go_wp2_with (go_at_call 77;refine(HIN.out _).mono ?_;rintro e w' ⟨rfl,rfl⟩)
 generalize (w.alloc (.cells #[.slice a1 m1 c1,.slice a2 m2 c2] 35)).alloc (.cells #[.int .i64 x.id,.int .i64 x.st,.slice a3 m3 c3,.int .i64 x.fi,.int .i64 x.ct] 86)=w2 at *
 refine(HV.out w2 HBX.out).mono ?_
 rintro e w3 ⟨rfl,b3⟩
 have p3:=(b3.cell bmt).trans l3
 have p4:=(b3.cell bmt).trans l4
 have HB3:=ξh (HBX.trans (b3.mono HBX.size))
 clear b3 l0 l1 l2 l3 l4 q0 q1 HV
 cases o
 · go_wp2
   go_ret
   exact⟨by rw[HF.out];rfl,HB3.out⟩
 go_wp2_with fail
 refine(HBK.out _).mono ?_
 rintro e w4 ⟨rfl,b4⟩
 have HB4:=ξh (HB3.trans (b4.mono HB3.size))
 clear b4
 go_wp2
 go_ret
 exact⟨by rw[HF.out];rfl,HB4.out⟩
theorem planBad_any (y:Lgt) (u:Value) (z:Lgt) (b0:Nat) (v:Value) (w:World) (hu:Rd w u z.fb) (hv:Rd w v y.fb)
 (hz:ξac z.fi z.ct=true) (hy:ξac y.fi y.ct=true) (hl:z.fb.length≤1100000)
 (c0:w.cell? ⟨b0,0,none⟩=some (.int .i64 y.id)) (c1:w.cell? ⟨b0,1,none⟩=some (.int .i64 y.st)) (c2:w.cell? ⟨b0,2,none⟩=some v) (c3:w.cell? ⟨b0,3,none⟩=some (.int .i64 y.fi)) (c4:w.cell? ⟨b0,4,none⟩=some (.int .i64 y.ct)):
 Calls Tryz.prog 93 #[.agg #[.int .i64 z.id,.int .i64 z.st,u,.int .i64 z.fi,.int .i64 z.ct],ptr b0] w fun e w'=>e= .returned (.bool (ξY z y))∧Below w.heap.size w w':=by
 have HC:=ξh (fun w' (hb:Below w.heap.size w w')=>collide_any u v z y w' (hu.belowAll hb) (hv.belowAll hb) hz hy hl)
 obtain⟨a1,k1,m1,-,rfl,-,-,-⟩:=hu.opn
 obtain⟨a2,k2,m2,-,rfl,-,-,-⟩:=hv.opn
 obtain⟨bx,bc,blt,-⟩:=ξD w #[.int .i64 z.id,.int .i64 z.st,.slice a1 m1 k1,.int .i64 z.fi,.int .i64 z.ct] 86
 have q0:=bc 0 _ rfl
 have q1:=bc 1 _ rfl
 have q2:=bc 2 _ rfl
 have q3:=bc 3 _ rfl
 have q4:=bc 4 _ rfl
 have hlt:=ξd _ _ c0
 have d0:=(bx.cell (p:=⟨b0,0,none⟩) hlt).trans c0
 have d1:=(bx.cell (p:=⟨b0,1,none⟩) hlt).trans c1
 have d2:=(bx.cell (p:=⟨b0,2,none⟩) hlt).trans c2
 have d3:=(bx.cell (p:=⟨b0,3,none⟩) hlt).trans c3
 have d4:=(bx.cell (p:=⟨b0,4,none⟩) hlt).trans c4
 have HBX:=ξh bx
 clear c0 c1 c2 c3 c4 bc bx hu hv
 go_enter Tryz.func93,Tryz.ntmps93
 go_wp2_with fail
 refine(HC.out _ HBX.out).mono ?_
 rintro e w3 ⟨rfl,b3⟩
 have HB3:=ξh (HBX.trans (b3.mono HBX.size))
 clear b3
 go_wp2
 go_ret
 exact⟨rfl,HB3.out⟩
theorem plnOk_net {p:Pln} (h:ξL p.n=false):ξam p=false:=by unfold ξam;rw[h];rfl
theorem plnOk_len {p:Pln} (h:¬p.ls.length≤12):ξam p=false:=by unfold ξam;rw[ξf h];simp
theorem plnOk_at {p:Pln} {i:Nat} (hi:i<p.ls.length) (h:ltOk p i=false):ξam p=false:=by unfold ξam;rw[rng_no hi h];simp
theorem plnOk_all {p:Pln} (h1:ξL p.n=true) (h2:p.ls.length≤12) (h3:∀i,i<p.ls.length→ltOk p i=true):ξam p=true:=by unfold ξam;rw[rng_yes h3,h1,ξt h2];rfl
theorem ltOk_blk {p:Pln} {i:Nat} (h:ltOk p i=true):ξac (lgA p i).fi (lgA p i).ct=true:=by
 unfold ltOk ξah at h
 simp only[Bool.and_eq_true] at h
 exact h.1.2
theorem ξbR (v:Value) (p:Pln) (w:World) (h:PlnR w v p) (hfb:∀i:Nat,(lgA p i).fb.length≤1100000):
 Calls Tryz.prog 48 #[v] w fun e w'=>e= .returned (.bool (ξam p))∧Below w.heap.size w w':=by
 obtain⟨u1,u2,u3,rfl,r1,r2,r3,hsm⟩:=h
 have hnet:NetR w (.agg #[u1,u2]) p.n:=⟨u1,u2,rfl,r1,r2,hsm⟩
 obtain⟨⟨a1,m1,c1,rfl⟩,a2,m2,c2,rfl⟩:=ξF hnet
 obtain⟨a3,m3,c3,rfl,HN3,hc3,hm3,ha3⟩:=ξa1 r3
 have HNV:=ξh (fun w' (hb:Below w.heap.size w w')=>ξas _ p.n w' (hnet.behind hb))
 have HNE:=ξh hnet
 have HA:=ξh ha3
 have HR3:=ξh r3
 have HFB:=ξh hfb
 have HX1:=ξh (@plnOk_net p)
 have HX2:=ξh (@plnOk_len p)
 have HX3:=ξh (fun i hi h=>@plnOk_at p i hi h)
 have HX4:=ξh (@plnOk_all p)
 rw[HN3.out] at HX2 HX3 HX4
 obtain⟨bx,bc,blt,-⟩:=ξD w #[.slice a1 m1 c1,.slice a2 m2 c2,.slice a3 m3 c3] 75
 have q0:=bc 0 _ rfl
 have q1:=bc 1 _ rfl
 have q2:=bc 2 _ rfl
 have HBX:=ξh bx
 clear bx bc ha3 r1 r2 r3 hsm hnet hfb
 generalize ξam p=q at *
 go_enter Tryz.func48,Tryz.ntmps48
 go_wp2_with fail
 generalize w.alloc (.cells #[.slice a1 m1 c1,.slice a2 m2 c2,.slice a3 m3 c3] 75)=w1 at *
 have HNV1:=ξh (HNV.out w1 HBX.out)
 cases hok:ξL p.n
 · have HF:=ξh (HX1.out hok)
   rw[hok] at HNV1
   refine HNV1.mono ?_
   rintro e w2 ⟨rfl,b2⟩
   have HB2:=ξh (HBX.trans (b2.mono HBX.size))
   clear b2 hok
   go_wp2
   go_ret
   exact⟨by rw[HF.out];rfl,HB2.out⟩
 rw[hok] at HNV1
 refine HNV1.mono ?_
 rintro e w2 ⟨rfl,b2⟩
 have p2:=(b2.cell blt).trans q2
 have HB2:=ξh b2
 clear b2
 by_cases h12:m3≤12
 case neg=>
  have HF:=ξh (HX2.out h12)
  have hd:decide (12<(m3:Int))=true:=ξt (by omega)
  have hd2:decide (12<m3)=true:=ξt (by omega)
  clear h12
  go_wp2
  go_ret
  exact⟨by rw[HF.out];rfl,HBX.trans (HB2.mono HBX.size)⟩
 have hd:decide (12<(m3:Int))=false:=ξf (by omega)
 have hd2:decide (12<m3)=false:=ξf (by omega)
 go_wp2
 clear hd hd2
 go_loopw [3,4,18] (fun _ _ i wr=>∃k:Nat,k≤m3∧i= .int .i64 k∧Hid (∀i,i<k→ltOk p i=true)∧Hid (Below w1.heap.size w1 wr)) (fun _ _ i _=>m3-(intOf i).toNat)
 case atStart=>exact⟨0,ξu _,rfl,fun i hi=>by omega,HB2.out⟩
 case round=>
  obtain⟨k,hk,rfl,HK,HB⟩:=hrel
  by_cases hlt:k<m3
  · have hltI:(k:Int)<(m3:Int):=by omega
    obtain⟨b,off,rfl,hbs,hcs⟩:=HA.out (by omega)
    have HCS:=ξh hcs
    obtain⟨u,e0,e1,e2,e3,e4,hru⟩:=hcs k hlt
    have BW:=HBX.trans (HB.mono HBX.size)
    have HBW:=ξh BW
    have x0:=(BW.cell (p:=⟨b,off+k*5,none⟩) hbs).trans e0
    have x1:=(BW.cell (p:=⟨b,off+k*5+1,none⟩) hbs).trans e1
    have x2:=(BW.cell (p:=⟨b,off+k*5+2,none⟩) hbs).trans e2
    have x3:=(BW.cell (p:=⟨b,off+k*5+3,none⟩) hbs).trans e3
    have x4:=(BW.cell (p:=⟨b,off+k*5+4,none⟩) hbs).trans e4
    have p0:=(HB.cell (p:=⟨w.heap.size,0,none⟩) blt).trans q0
    have p1:=(HB.cell (p:=⟨w.heap.size,1,none⟩) blt).trans q1
    have p2:=(HB.cell (p:=⟨w.heap.size,2,none⟩) blt).trans q2
    have HRU:=ξh hru
    obtain⟨au,cu,nu,-,rfl,-,-,-⟩:=hru.opn
    have HV:=ξh (show ltOk p k=(ξah p.n (p.ls[k]?.getD nilL)&&(!(decide (0<k)&&decide ((p.ls[k]?.getD nilL).id≤(p.ls[k-1]?.getD nilL).id)) && !((p.ls.take k).any fun y=>ξY y (p.ls[k]?.getD nilL)))) from rfl)
    have HNO:=ξh (HX3.out k hlt)
    have HST:=ξh (fun h=>ξaS HK.out (k:=k) h)
    have HFK:=ξh (show(p.ls[k]?.getD nilL).fb.length≤1100000 from HFB.out k)
    clear hcs e0 e1 e2 e3 e4 BW hru
    generalize p.ls[k]?.getD nilL=l at *
    obtain⟨by',bd,bmt,-⟩:=ξD wr #[.int .i64 l.id,.int .i64 l.st,.slice au nu cu,.int .i64 l.fi,.int .i64 l.ct] 86
    have HBY:=ξh by'
    have y0:=(by'.cell (p:=⟨w.heap.size,0,none⟩) (ξd _ _ p0)).trans p0
    have y1:=(by'.cell (p:=⟨w.heap.size,1,none⟩) (ξd _ _ p1)).trans p1
    have y2:=(by'.cell (p:=⟨w.heap.size,2,none⟩) (ξd _ _ p2)).trans p2
    have z0:=bd 0 _ rfl
    have z1:=bd 1 _ rfl
    have z2:=bd 2 _ rfl
    have z3:=bd 3 _ rfl
    have z4:=bd 4 _ rfl
    have HBZ:=ξh (HBW.trans (by'.mono HBW.size))
    have HIL:=ξh (fun wx (hb:Below w.heap.size w wx)=>isLight_any (.slice a1 m1 c1) (.slice a2 m2 c2) (.slice au nu cu) p.n l wx (HNE.behind hb) (HRU.belowAll hb) HFK.out)
    clear bd by'
    cases hlo:ξah p.n l
    · have HF:=ξh (HNO.out (by rw[HV.out,hlo];rfl))
      rw[hlo] at HIL
      go_wp2
      generalize wr.alloc (.cells #[.int .i64 l.id,.int .i64 l.st,.slice au nu cu,.int .i64 l.fi,.int .i64 l.ct] 86)=w4 at *
      have j0:=rg y0
      have j1:=rg y1
      have j2:=rg y2
      have k0:=rg z0
      have k1:=rg z1
      have k2:=rg z2
      have k3:=rg z3
      have k4:=rg z4
      have HIL2:=ξh (fun d os=>HIL.out (grow (redrawn w4 d) os) (HBZ.trans ((ξc w4 d os).mono HBZ.size)))
      clear x0 x1 x2 x3 x4 p0 p1 p2 y0 y1 y2 z0 z1 z2 z3 z4
      refine ξv ?_
      repeat (go_big_quiet_step (first | (go_at_call 91;exact Calls.regrown_of (HIL2.out _ _))))
      refine wpQuiet_nil ?_
      rintro _ ⟨⟨dq,osq⟩,rfl⟩
      go_wp2
      go_ret
      exact⟨by rw[HF.out];rfl,HBZ.trans ((ξc _ dq osq).mono HBZ.size)⟩
    have hbl:ξac l.fi l.ct=true:=by unfold ξah at hlo;simp only[Bool.and_eq_true] at hlo;exact hlo.2
    rw[hlo] at HIL HV
    have HFN:=ξh (show IsFn 93 from isFn_of rfl rfl rfl)
    have HCF0:=ξh (fun(wx:World) (hx:Below w.heap.size w wx) (c0:wx.cell? ⟨wr.heap.size,0,none⟩=some (.int .i64 l.id)) (c1:wx.cell? ⟨wr.heap.size,1,none⟩=some (.int .i64 l.st)) (c2:wx.cell? ⟨wr.heap.size,2,none⟩=some (.slice au nu cu)) (c3':wx.cell? ⟨wr.heap.size,3,none⟩=some (.int .i64 l.fi)) (c4:wx.cell? ⟨wr.heap.size,4,none⟩=some (.int .i64 l.ct))=>
     ξcf (.slice (some ⟨b,off,none⟩) k c3) (p.ls.take k) 93 wr.heap.size (fun y=>ξY y l) wx (rws_take (fun _=>rfl) (by omega) nilL (HR3.behind hx) hk) HFN.out
      (fun i w' hi hb z u hz hru=>by
        have hik:i<k:=by rw[List.length_take] at hi;omega
        have hze:z=lgA p i:=by rw[hz,List.getElem?_take,if_pos hik]
        subst hze
        have hl:=ξd _ _ c0
        exact planBad_any l u _ wr.heap.size (.slice au nu cu) w' hru (HRU.belowAll (hx.trans (hb.mono hx.size))) (ltOk_blk (HK.out i hik)) hbl (HFB.out i) ((hb.cell (p:=⟨wr.heap.size,0,none⟩) hl).trans c0) ((hb.cell (p:=⟨wr.heap.size,1,none⟩) hl).trans c1) ((hb.cell (p:=⟨wr.heap.size,2,none⟩) hl).trans c2) ((hb.cell (p:=⟨wr.heap.size,3,none⟩) hl).trans c3') ((hb.cell (p:=⟨wr.heap.size,4,none⟩) hl).trans c4)))
    generalize (p.ls.take k).any (fun y=>ξY y l)=any at *
    have i1:(0:Int)≤(k:Int):=by omega
    have i2:(k:Int)≤(c3:Int):=by omega
    have i3:k≤c3:=by omega
    have i4:(k:Int)≤(m3:Int):=by omega
    clear hbl hlo
    by_cases hk0:k=0
    · have hk0b:decide (0<k)=false:=ξf (by omega)
      have hk0c:decide (0<(k:Int))=false:=ξf (by omega)
      have hv:=HV.out
      rw[hk0b] at hv
      have HV2:=ξh hv
      clear hk0 hv HV
      cases any
      · have HS:=ξh (HST.out (by rw[HV2.out];rfl))
        clear HV2 HST HNO
        go_wp2
        generalize wr.alloc (.cells #[.int .i64 l.id,.int .i64 l.st,.slice au nu cu,.int .i64 l.fi,.int .i64 l.ct] 86)=w4 at *
        have j0:=rg y0
        have j1:=rg y1
        have j2:=rg y2
        have k0:=rg z0
        have k1:=rg z1
        have k2:=rg z2
        have k3:=rg z3
        have k4:=rg z4
        have HIL2:=ξh (fun d os=>HIL.out (grow (redrawn w4 d) os) (HBZ.trans ((ξc w4 d os).mono HBZ.size)))
        have HCF:=ξh (fun d os=>HCF0.out (grow (redrawn w4 d) os) (HBZ.trans ((ξc w4 d os).mono HBZ.size)) (k0 d os) (k1 d os) (k2 d os) (k3 d os) (k4 d os))
        clear x0 x1 x2 x3 x4 p0 p1 p2 y0 y1 y2 z0 z1 z2 z3 z4 HCF0 HIL
        refine ξv ?_
        repeat (go_big_quiet_step (first | (go_at_call 91;exact Calls.regrown_of (HIL2.out _ _)) | (go_at_call 92;exact Calls.regrown_of (HCF.out _ _))))
        refine wpQuiet_nil ?_
        rintro _ ⟨⟨dq,osq⟩,rfl⟩
        go_wp2
        go_roundw
        case rel=>exact⟨k+1,hlt,by go_num,HS.out,(HB.trans (HBY.mono HB.size)).trans ((ξc _ dq osq).mono (HB.trans (HBY.mono HB.size)).size)⟩
        case measure=>simp[intOf];omega
      · have HF:=ξh (HNO.out (by rw[HV2.out];rfl))
        clear HV2 HST HNO
        go_wp2
        generalize wr.alloc (.cells #[.int .i64 l.id,.int .i64 l.st,.slice au nu cu,.int .i64 l.fi,.int .i64 l.ct] 86)=w4 at *
        have j0:=rg y0
        have j1:=rg y1
        have j2:=rg y2
        have k0:=rg z0
        have k1:=rg z1
        have k2:=rg z2
        have k3:=rg z3
        have k4:=rg z4
        have HIL2:=ξh (fun d os=>HIL.out (grow (redrawn w4 d) os) (HBZ.trans ((ξc w4 d os).mono HBZ.size)))
        have HCF:=ξh (fun d os=>HCF0.out (grow (redrawn w4 d) os) (HBZ.trans ((ξc w4 d os).mono HBZ.size)) (k0 d os) (k1 d os) (k2 d os) (k3 d os) (k4 d os))
        clear x0 x1 x2 x3 x4 p0 p1 p2 y0 y1 y2 z0 z1 z2 z3 z4 HCF0 HIL
        refine ξv ?_
        repeat (go_big_quiet_step (first | (go_at_call 91;exact Calls.regrown_of (HIL2.out _ _)) | (go_at_call 92;exact Calls.regrown_of (HCF.out _ _))))
        refine wpQuiet_nil ?_
        rintro _ ⟨⟨dq,osq⟩,rfl⟩
        go_wp2
        go_ret
        exact⟨by rw[HF.out];rfl,HBZ.trans ((ξc _ dq osq).mono HBZ.size)⟩
    · obtain⟨k',hk'⟩:∃k',k=k'+1:=⟨k-1,by omega⟩
      have hkk:k-1=k':=by omega
      have hk0b:decide (0<k)=true:=ξt (by omega)
      have hk0c:decide (0<(k:Int))=true:=ξt (by omega)
      have hkp:(0:Int)<(k:Int):=by omega
      have f1w:IntKind.i64.wrap ((k:Int)-1)=(k':Int):=by rw[ξi _ (by omega)];omega
      have f2w:(k':Int)<(m3:Int):=by omega
      have f3w:k'<m3:=by omega
      obtain⟨u',t0,-,-,-,-,-⟩:=HCS.out k' f3w
      have t0:=(HBZ.cell (p:=⟨b,off+k'*5,none⟩) hbs).trans t0
      have hv:=HV.out
      rw[hkk,hk0b] at hv
      generalize (p.ls[k']?.getD nilL).id=pid at *
      have HV2:=ξh hv
      clear hk0 hv HV hk' hkk
      cases hge:decide (l.id≤pid)
      case true=>
       have HF:=ξh (HNO.out (by rw[HV2.out,hge];rfl))
       clear HV2 HST HNO
       go_wp2
       generalize wr.alloc (.cells #[.int .i64 l.id,.int .i64 l.st,.slice au nu cu,.int .i64 l.fi,.int .i64 l.ct] 86)=w4 at *
       have j0:=rg y0
       have j1:=rg y1
       have j2:=rg y2
       have k0:=rg z0
       have k1:=rg z1
       have k2:=rg z2
       have k3:=rg z3
       have k4:=rg z4
       have jt:=rg t0
       have HIL2:=ξh (fun d os=>HIL.out (grow (redrawn w4 d) os) (HBZ.trans ((ξc w4 d os).mono HBZ.size)))
       have HCF:=ξh (fun d os=>HCF0.out (grow (redrawn w4 d) os) (HBZ.trans ((ξc w4 d os).mono HBZ.size)) (k0 d os) (k1 d os) (k2 d os) (k3 d os) (k4 d os))
       clear x0 x1 x2 x3 x4 p0 p1 p2 y0 y1 y2 z0 z1 z2 z3 z4 HCF0 HIL
       refine ξv ?_
       repeat (go_big_quiet_step (first | (go_at_call 91;exact Calls.regrown_of (HIL2.out _ _)) | (go_at_call 92;exact Calls.regrown_of (HCF.out _ _))))
       refine wpQuiet_nil ?_
       rintro _ ⟨⟨dq,osq⟩,rfl⟩
       go_wp2
       go_ret
       exact⟨by rw[HF.out];rfl,HBZ.trans ((ξc _ dq osq).mono HBZ.size)⟩
      rw[hge] at HV2
      cases any
      · have HS:=ξh (HST.out (by rw[HV2.out];rfl))
        clear HV2 HST HNO
        go_wp2
        generalize wr.alloc (.cells #[.int .i64 l.id,.int .i64 l.st,.slice au nu cu,.int .i64 l.fi,.int .i64 l.ct] 86)=w4 at *
        have j0:=rg y0
        have j1:=rg y1
        have j2:=rg y2
        have k0:=rg z0
        have k1:=rg z1
        have k2:=rg z2
        have k3:=rg z3
        have k4:=rg z4
        have jt:=rg t0
        have HIL2:=ξh (fun d os=>HIL.out (grow (redrawn w4 d) os) (HBZ.trans ((ξc w4 d os).mono HBZ.size)))
        have HCF:=ξh (fun d os=>HCF0.out (grow (redrawn w4 d) os) (HBZ.trans ((ξc w4 d os).mono HBZ.size)) (k0 d os) (k1 d os) (k2 d os) (k3 d os) (k4 d os))
        clear x0 x1 x2 x3 x4 p0 p1 p2 y0 y1 y2 z0 z1 z2 z3 z4 HCF0 HIL
        refine ξv ?_
        repeat (go_big_quiet_step (first | (go_at_call 91;exact Calls.regrown_of (HIL2.out _ _)) | (go_at_call 92;exact Calls.regrown_of (HCF.out _ _))))
        refine wpQuiet_nil ?_
        rintro _ ⟨⟨dq,osq⟩,rfl⟩
        go_wp2
        go_roundw
        case rel=>exact⟨k+1,hlt,by go_num,HS.out,(HB.trans (HBY.mono HB.size)).trans ((ξc _ dq osq).mono (HB.trans (HBY.mono HB.size)).size)⟩
        case measure=>simp[intOf];omega
      · have HF:=ξh (HNO.out (by rw[HV2.out];rfl))
        clear HV2 HST HNO
        go_wp2
        generalize wr.alloc (.cells #[.int .i64 l.id,.int .i64 l.st,.slice au nu cu,.int .i64 l.fi,.int .i64 l.ct] 86)=w4 at *
        have j0:=rg y0
        have j1:=rg y1
        have j2:=rg y2
        have k0:=rg z0
        have k1:=rg z1
        have k2:=rg z2
        have k3:=rg z3
        have k4:=rg z4
        have jt:=rg t0
        have HIL2:=ξh (fun d os=>HIL.out (grow (redrawn w4 d) os) (HBZ.trans ((ξc w4 d os).mono HBZ.size)))
        have HCF:=ξh (fun d os=>HCF0.out (grow (redrawn w4 d) os) (HBZ.trans ((ξc w4 d os).mono HBZ.size)) (k0 d os) (k1 d os) (k2 d os) (k3 d os) (k4 d os))
        clear x0 x1 x2 x3 x4 p0 p1 p2 y0 y1 y2 z0 z1 z2 z3 z4 HCF0 HIL
        refine ξv ?_
        repeat (go_big_quiet_step (first | (go_at_call 91;exact Calls.regrown_of (HIL2.out _ _)) | (go_at_call 92;exact Calls.regrown_of (HCF.out _ _))))
        refine wpQuiet_nil ?_
        rintro _ ⟨⟨dq,osq⟩,rfl⟩
        go_wp2
        go_ret
        exact⟨by rw[HF.out];rfl,HBZ.trans ((ξc _ dq osq).mono HBZ.size)⟩
  · obtain rfl:m3=k:=by omega
    have HE:=ξh (HX4.out hok h12 HK.out)
    go_wp2
    go_ret
    exact⟨by rw[HE.out];rfl,HBX.trans (HB.mono HBX.size)⟩
def sumK (M:List Nat):Nat→Int
 | 0=>0
 | k+1=>sumK M k+((popN (M[k]?.getD 0):Nat):Int)
theorem sumK_bd (M:List Nat):∀k,0≤sumK M k∧sumK M k≤24*(k:Int)
 | 0=>by simp[sumK]
 | k+1=>by
   have h:=sumK_bd M k
   have:=popN_le (M[k]?.getD 0)
   rw[sumK];omega
theorem or24 {a b:Nat} (ha:a<16777216) (hb:b<16777216):a ||| b<16777216:=by
 have:=or_lt (k:=24) (a:=a) (b:=b) (by omega) (by omega)
 omega
def orS (M:List Nat):Nat→Nat
 | 0=>0
 | k+1=>orS M k ||| (M[k]?.getD 0)
theorem PlanUseX_any (v:Value) (p:Pln) (w:World) (h:PlnR w v p) (hv:ξam p=true) (hn2:p.n.fs.length≤14) (hl:p.ls.length≤1000) (hlo:∀x∈p.ls,LgO p.n.fs.length x) (hfb:∀i:Nat,(lgA p i).fb.length≤1100000):
 Calls Tryz.prog 95 #[v] w fun e w'=>e= .returned (.tuple #[.int .i64 (sumK (ξa5 p.ls p.n.fs.length) p.n.fs.length),.int .i64 ((popN (orS (ξa5 p.ls p.n.fs.length) p.n.fs.length):Nat):Int),.bool true])∧Below w.heap.size w w':=by
 have HVP:=ξh (fun w' (hb:Below w.heap.size w w')=>by have:=ξbR v p w' (h.behind hb) hfb;rw[hv] at this;exact this)
 have HFM:=ξh (fun w' (hb:Below w.heap.size w w')=>ξb7 v p w' (h.behind hb) (ξs hn2 (by decide)) hl hlo)
 have hMl:(ξa5 p.ls p.n.fs.length).length=p.n.fs.length:=(ξaF p.ls _).trans (by simp)
 have HLT:=ξh (fun i (hi:i<p.n.fs.length)=>orAll_lt (ls:=p.ls) hlo hi)
 obtain⟨u1,u2,u3,rfl,r1,r2,r3,hsm⟩:=h
 have hnet:NetR w (.agg #[u1,u2]) p.n:=⟨u1,u2,rfl,r1,r2,hsm⟩
 obtain⟨⟨a1,m1,c1,rfl⟩,a2,m2,c2,rfl⟩:=ξF hnet
 obtain⟨a3,m3,c3,rfl,-⟩:=Rdt.opn r3
 generalize ξa5 p.ls p.n.fs.length=M at *
 generalize p.n.fs.length=nf at *
 have HB1:=ξh ((ξb w.heap.size w).alloc (ξr _) (.cells #[.slice a1 m1 c1,.slice a2 m2 c2,.slice a3 m3 c3] 75))
 have HX1:=ξh (ξn w (.cells #[.slice a1 m1 c1,.slice a2 m2 c2,.slice a3 m3 c3] 75))
 clear hnet r1 r2 r3 hsm hlo hl hv hfb
 go_enter Tryz.func95,Tryz.ntmps95
 go_wp2_with fail
 obtain⟨bx,hbx⟩:∃bx,bx=w.heap.size:=⟨_,rfl⟩
 rw[←hbx] at HX1 ⊢
 clear hbx
 generalize w.alloc (.cells #[.slice a1 m1 c1,.slice a2 m2 c2,.slice a3 m3 c3] 75)=w1 at *
 refine(HVP.out _ HB1.out).mono ?_
 rintro e w2 ⟨rfl,b2⟩
 have HB2:=ξh (HB1.trans (b2.mono HB1.size))
 have HX2:=ξh (ξA HX1.out b2)
 have y0:=blkc HX2.out (j:=0) (u:= .slice a1 m1 c1) rfl
 have y1:=blkc HX2.out (j:=1) (u:= .slice a2 m2 c2) rfl
 have y2:=blkc HX2.out (j:=2) (u:= .slice a3 m3 c3) rfl
 clear b2
 go_wp2_with fail
 refine(HFM.out _ HB2.out).mono ?_
 rintro e w3 ⟨v3,rfl,o3,b3⟩
 have HB3:=ξh (HB2.trans (b3.mono HB2.size))
 obtain⟨a,c,m,HM,rfl,hmc,hm63,hcs⟩:=o3.rd.opn
 have hMM:M.length=m:=by have:=HM.out;rw[ξbC] at this;exact this
 have hmnf:m=nf:=by omega
 subst hmnf
 have HCS:=ξh hcs
 clear o3 b3 hMM hMl y0 y1 y2 hcs
 go_wp2_with fail
 go_loop [5,6,8,15] (fun s5 s6 _ i=>∃(k A:Nat),k≤m∧i= .int .i64 k∧s5= .int .i64 (sumK M k)∧s6= .int .i64 (A:Int)∧A<16777216∧Hid (A=orS M k)) (fun _ _ _ i=>m-(intOf i).toNat)
 case atStart=>exact⟨0,0,by omega,rfl,rfl,rfl,by omega,rfl⟩
 case round=>
  obtain⟨k,A,hk,rfl,rfl,rfl,hA,HAE⟩:=hrel
  by_cases hlt:k<m
  · have hltI:(k:Int)<(m:Int):=by omega
    obtain⟨b,off,rfl,hbs,hcs⟩:=HCS.out (by omega)
    have c0:=hcs k hlt
    rw[nats_at] at c0
    have hx:M[k]?.getD 0<16777216:=HLT.out k hlt
    have HST:=ξh (show sumK M (k+1)=sumK M k+((popN (M[k]?.getD 0):Nat):Int) from rfl)
    have HSO:=ξh (show A ||| (M[k]?.getD 0)=orS M (k+1) by rw[HAE.out];rfl)
    have hbd:=sumK_bd M k
    have hpl:=popN_le (M[k]?.getD 0)
    generalize M[k]?.getD 0=x at *
    generalize sumK M k=S at *
    have hu:=u64n (a:=x) (ξq hx (by decide))
    have ho:=ξb6 hA hx
    have HOA:=ξh (or24 hA hx)
    have HX:=ξh hx
    have HPX:=ξh (fun w=>ones_any x HX.out w)
    generalize A ||| x=A2 at *
    generalize popN x=P at *
    have hw1:IntKind.i64.wrap (S+(P:Int))=S+(P:Int):=ξi _ (by omega)
    have hw2:wrap64 (S+(P:Int))=S+(P:Int):=ξw _ (by omega)
    clear hcs hbs hx hbd hpl hA
    go_wp2_with (go_at_call 134;refine(HPX.out _).mono ?_;rintro e w' ⟨rfl,rfl⟩)
    go_round
    · exact⟨k+1,A2,by omega,by go_num,by rw[HST.out],rfl,HOA.out,HSO.out⟩
    · simp[intOf];omega
  · obtain rfl:k=m:=by omega
    have hu:=u64n (a:=A) (ξq hA (by decide))
    have HPX:=ξh (fun w=>ones_any A hA w)
    obtain⟨S,hS⟩:∃S,S=sumK M k:=⟨_,rfl⟩
    have HSS:=ξh hS
    rw[←hS]
    clear hA hS
    go_wp2_with (go_at_call 134;refine(HPX.out _).mono ?_;rintro e w' ⟨rfl,rfl⟩)
    exact bodyPost_ret (results_tmp3 (t:=2) (u:=3) (v:=4) rfl _ _ _) rfl ⟨by rw[←HSS.out,←HAE.out];rfl,HB3.out⟩
theorem PlanUse_any (v:Value) (p:Pln) (w:World) (h:PlnR w v p) (hv:ξam p=true) (hn2:p.n.fs.length≤14) (hl:p.ls.length≤1000) (hlo:∀x∈p.ls,LgO p.n.fs.length x) (hfb:∀i:Nat,(lgA p i).fb.length≤1100000):
 Calls Tryz.prog 95 #[v] w fun e w'=>∃x:Int,e= .returned (.tuple #[.int .i64 (sumK (ξa5 p.ls p.n.fs.length) p.n.fs.length),.int .i64 x,.bool true])∧Below w.heap.size w w':=
 (PlanUseX_any v p w h hv hn2 hl hlo hfb).mono fun e w' ⟨a,b⟩=>⟨_,a,b⟩
def sumR (V:Nat→Int):Nat→Int
 | 0=>0
 | k+1=>sumR V k+V k
theorem sumK_R {M:List Nat} {V:Nat→Int} :∀k,(∀i,i<k→((popN (M[i]?.getD 0):Nat):Int)=V i)→sumK M k=sumR V k
 | 0,_=>rfl
 | k+1,h=>by rw[sumK,sumR,sumK_R k (fun i hi=>h i (by omega)),h k (by omega)]
def useT (n:Net) (fs:List Fmt) (gs:List Gro) (k:Nat):List Int:=(List.range k).map fun t=>sumR (ξT n fs gs t) n.fs.length
theorem useT_step (n:Net) (fs:List Fmt) (gs:List Gro) (k:Nat):useT n fs gs (k+1)=useT n fs gs k++[sumR (ξT n fs gs k) n.fs.length]:=by
 unfold useT;rw[List.range_succ,List.map_append];rfl
theorem useT_len (n:Net) (fs:List Fmt) (gs:List Gro) (k:Nat):(useT n fs gs k).length=k:=by simp[useT]
def useH (n:Net) (fs:List Fmt) (gs:List Gro):List Int:=if ξa0 n fs gs then useT n fs gs 8 else[]
def UhP (n:Net) (fs:List Fmt) (gs:List Gro) (w:World) (e:Ending) (w':World):Prop:=∃v,e= .returned (.tuple #[v,.bool (ξa0 n fs gs)])∧Ofr w' w.heap.size (inD (useH n fs gs)) v∧Below w.heap.size w w'
theorem implUses_any (v vf vg:Value) (n:Net) (fs:List Fmt) (gs:List Gro) (w:World) (h:NetR w v n) (hf:Rdt w (flt 2 fmE fs) vf) (hg:Rdt w (flt 6 groE gs) vg):
 Calls Tryz.prog 50 #[v,vf,vg] w (UhP n fs gs w):=by
 obtain⟨NP,hNP⟩:∃NP,NP=UhP n fs gs w:=⟨_,rfl⟩
 rw[←hNP]
 have HNP:=ξh hNP
 have HP:=ξh (fun w' (hb:Below w.heap.size w w')=>ξaZ v vf vg n fs gs w' (h.behind hb) (hf.behind hb) (hg.behind hb))
 have hnet:=h
 obtain⟨u1,u2,rfl,r1,r2,hsm⟩:=h
 obtain⟨⟨a1,m1,c1,rfl⟩,-⟩:=ξF hnet
 obtain⟨a2,m2,c2,rfl,HN2,hc2,hm2,-⟩:=ξC (m:=4) (enc:=fibE) (fun _=>rfl) (by omega) nilB r2
 obtain⟨af,mf,cf,rfl,-,-,-,-⟩:=ξC (m:=2) (enc:=fmE) (fun _=>rfl) (by omega) ξJ hf
 obtain⟨ag,mg,cg,rfl,-,-,-,-⟩:=ξC (m:=6) (enc:=groE) (fun _=>rfl) (by omega) nilG hg
 have HSM:=ξh (show NetSm n from hsm)
 have HB1:=ξh ((ξb w.heap.size w).alloc (ξr _) (.cells #[.slice a1 m1 c1,.slice a2 m2 c2] 35))
 have HX1:=ξh (ξn w (.cells #[.slice a1 m1 c1,.slice a2 m2 c2] 35))
 clear hnet hf hg hNP r1 r2 hsm
 go_enter Tryz.func50,Tryz.ntmps50
 go_wp2_with fail
 obtain⟨bx,hbx⟩:∃bx,bx=w.heap.size:=⟨_,rfl⟩
 rw[←hbx] at HX1 ⊢
 clear hbx
 generalize w.alloc (.cells #[.slice a1 m1 c1,.slice a2 m2 c2] 35)=w1 at *
 refine(HP.out w1 HB1.out).mono ?_
 rintro e w2 ⟨b2,aw,ms,cs,a,m,c,rfl,hpl,hno⟩
 have HB2:=ξh (HB1.trans (b2.mono HB1.size))
 have HX2:=ξh (ξA HX1.out b2)
 cases hO:ξR n fs gs with
 | none=>
   obtain⟨-,k2⟩:=ξap hO
   have HE:=ξh (⟨k2,by unfold useH;rw[k2];rfl⟩:ξa0 n fs gs=false∧useH n fs gs=[])
   rw[k2]
   clear b2 hpl hO hno k2
   go_wp2
   rw[HNP.out]
   exact⟨.slice none 0 0,by rw[HE.1];rfl,by rw[HE.2];exact Ofr.nil _ _ _,HB2.out⟩
 | some x=>
   obtain⟨ps,r⟩:=x
   have k3:=(ξaf hO).2.2
   have HE:=ξh (⟨k3,by unfold useH;rw[k3];rfl⟩:ξa0 n fs gs=true∧useH n fs gs=useT n fs gs 8)
   rw[k3]
   obtain⟨hg8,-,-⟩:=hpl ps r hO
   obtain⟨hl8,hnok,hlsk⟩:=pls_ok hO
   obtain⟨bs,offs,cc,es,hbs,HPL⟩:=pls_at hg8 hl8 HSM.out
   cases es
   have HLS:=ξh hlsk
   have HNOK:=ξh hnok
   have h14:n.fs.length≤14:=(ξM hnok).2.2.1
   have HU:=ξh (show∀t i,ξT n fs gs t i=((popN (ξU (ps[t]?.getD []) (i:Int)):Nat):Int) from fun t i=>by unfold ξT;rw[hO])
   have HRP:=ξh (show∀t,t<8→ξam ⟨n,ps[t]?.getD []⟩=true from fun t ht=>by
    obtain⟨-,h2,h3,h4⟩:=ξau hO
    have he:ps[t]?= some (ps[t]?.getD []):=by rw[ξg (by omega)];rfl
    exact runP_pln h2 h3 h4 ht he)
   have HUS:=ξh (fun t (ht:t<8) (vp:Value) w' (hp:PlnR w' vp ⟨n,ps[t]?.getD []⟩)=>PlanUse_any vp ⟨n,ps[t]?.getD []⟩ w' hp (HRP.out t ht) h14 (ξs (HLS.out t ht).1 (by decide)) ((HLS.out t ht).lgo HNOK.out) (fun i=>by
    by_cases hi:i<(ps[t]?.getD []).length
    · show((ps[t]?.getD [])[i]?.getD nilL).fb.length≤1100000
      rw[ξg hi]
      exact ξs ((HLS.out t ht).fb HNOK.out _ (ξj hi)) (by decide)
    · show((ps[t]?.getD [])[i]?.getD nilL).fb.length≤1100000
      rw[List.getElem?_eq_none (by omega)];exact ξu _))
   have HSU:=ξh (show∀t,t<8→sumK (ξa5 (ps[t]?.getD []) n.fs.length) n.fs.length=sumR (ξT n fs gs t) n.fs.length from fun t ht=>sumK_R _ fun i hi=>by
    rw[ξaX hi (fun x hx f hf=>((((HLS.out t ht).lgo HNOK.out) x hx).1 f hf).1)];exact(HU.out t i).symm)
   have HST:=ξh (fun k=>useT_step n fs gs k)
   have HLN:=ξh (fun k=>useT_len n fs gs k)
   have HBS:=ξh hbs
   have HO0:=ξh (ξaG w2 3)
   have HB0:=ξh ((ξb w2.heap.size w2).alloc (ξr _) (.cells #[] 3))
   clear b2 hpl hno k3 hg8 hl8 hnok hlsk hO hbs h14
   go_wp2_with fail
   obtain⟨bo,hbo⟩:∃bo,bo=w2.heap.size:=⟨_,rfl⟩
   rw[←hbo] at HO0 ⊢
   have HBO:=ξh hbo
   clear hbo
   generalize w2.alloc (.cells #[] 3)=w3 at *
   go_loopw [11,30] (fun s11 i wr=>∃(t:Nat) (ao:Option Addr) (no co:Nat),t≤8∧i= .int .i64 t∧s11= .slice ao no co∧Hid (Own wr bo (.slice ao no co) (useT n fs gs t))∧Hid (Below w2.heap.size w2 wr)) (fun _ i _=>8-(intOf i).toNat)
   case atStart=>exact⟨0,_,_,_,by omega,rfl,rfl,HO0.out,HB0.out⟩
   case round=>
    obtain⟨t,ao,no,co,ht,rfl,rfl,HO,HB⟩:=hrel
    by_cases hlt:t<8
    · have hltI:(t:Int)<8:=by omega
      obtain⟨p1,q1,d1,p2,q2,d2,p3,q3,d3,k0,k1,k2,hpr⟩:=HPL.out t hlt
      have c0:=(HB.cell (p:=⟨bs,offs+t * 3,none⟩) HBS.out).trans k0
      have c1:=(HB.cell (p:=⟨bs,offs+t * 3+1,none⟩) HBS.out).trans k1
      have c2:=(HB.cell (p:=⟨bs,offs+t * 3+2,none⟩) HBS.out).trans k2
      have HPR:=ξh (hpr.behind HB.out)
      clear k0 k1 k2 hpr
      go_upto_region 8 with fail
      have n2':=ξn wr (.cells #[.slice p1 q1 d1,.slice p2 q2 d2,.slice p3 q3 d3] 75)
      have HB5:=ξh ((ξb wr.heap.size wr).alloc (ξr _) (.cells #[.slice p1 q1 d1,.slice p2 q2 d2,.slice p3 q3 d3] 75))
      obtain⟨bq,hbq⟩:∃bq,bq=wr.heap.size:=⟨_,rfl⟩
      rw[←hbq] at n2' ⊢
      clear hbq c0 c1 c2
      generalize wr.alloc (.cells #[.slice p1 q1 d1,.slice p2 q2 d2,.slice p3 q3 d3] 75)=w5 at *
      have y0:=blkc n2' (j:=0) (u:= .slice p1 q1 d1) rfl
      have y1:=blkc n2' (j:=1) (u:= .slice p2 q2 d2) rfl
      have y2:=blkc n2' (j:=2) (u:= .slice p3 q3 d3) rfl
      have HUX:=ξh (HUS.out t hlt _ w5 (HPR.behind HB5.out))
      have HSX:=ξh ((HST.out t).trans (by rw[←HSU.out t hlt]))
      have HLO:=ξh (show(useT n fs gs t).length≤4000000 by rw[HLN.out];omega)
      try dsimp only at HUX
      generalize sumK (ξa5 (ps[t]?.getD []) n.fs.length) n.fs.length=S at *
      generalize useT n fs gs t=ys at HO HLO HSX
      clear n2'
      go_wp2_with fail
      refine HUX.mono ?_
      rintro e w6 ⟨x6,rfl,b6⟩
      have HB6:=ξh (HB5.trans (b6.mono HB5.size))
      have HB7:=ξh (HB.trans (HB6.mono HB.size))
      have HO6:=ξh (HO.below HB6.out (fun k hk=>(HO.lt k hk).2))
      have HSZ:=ξh (show bo≤w6.heap.size by rw[HBO.out];exact HB7.size)
      clear b6 y0 y1 y2
      go_wp2_with (first
       | (at_builtin;go_loud (refine ξa6 rfl (.tmp 40) (.tmp 42) 58 rfl Tryz.underlying58 Tryz.infoI bo (.slice ao no co) ys rfl HO6.out rfl HLO.out HSZ.out ?_);intro v8 w8 o8 g8 l8;have HO8:=ξh o8;have HB8:=ξh (HB7.grown g8 HB7.size (fun q hq=>by have:=(HO6.lt q hq).1;have:=HBO.out;omega));obtain⟨a8,n8,c8,rfl⟩:∃a n c,v8= .slice a n c:=ξag o8;clear o8 g8 l8))
      go_roundw
      case rel=>exact⟨t+1,_,_,_,by omega,by go_num,rfl,by rw[HSX.out];exact HO8.out,HB8.out⟩
      case measure=>simp[intOf];omega
    · obtain rfl:t=8:=by omega
      have HOF:=ξh (HO.mono (show w.heap.size≤bo by rw[HBO.out];exact HB2.size))
      go_wp2_with fail
      rw[HNP.out]
      exact⟨_,by rw[HE.1];rfl,by rw[HE.2];exact HOF.ofr,HB2.trans (HB.mono HB2.size)⟩
open Go.RowKit
theorem vHas_any (v:Value) (xs:List Int) (x:Int) (w:World) (h:Rd w v xs):
 Calls Tryz.prog 49 #[v,.int .i64 x] w fun e w'=>e= .returned (.bool (xs.contains x))∧w=w':=by
 obtain⟨a,cap,n,HN,rfl,_,hnl,ha⟩:=h.opn
 have HA:=ξh ha
 have HP:=ξh (fun k (hk:k<xs.length)=>@hasI_yes xs x k hk)
 have HM:=ξh (fun k (hk:k<xs.length)=>@anyI_more xs x k hk)
 have HO:=ξh (@hasI_no xs x)
 clear ha h
 generalize xs.contains x=r at *
 go_enter Tryz.func49,Tryz.ntmps49
 go_wp2
 go_loop [5] (fun i=>∃k:Nat,k≤n∧i= .int .i64 k∧Hid ((xs.take k).any (fun s=>s==x)=false)) (fun i=>n-(intOf i).toNat)
 case atStart=>exact⟨0,ξu _,rfl,by simp[Hid]⟩
 case round=>
  obtain⟨k,hk,rfl,HT⟩:=hrel
  by_cases hlt:k<n
  · have hltI:(k:Int)<(n:Int):=by omega
    have hkx:k<xs.length:=by rw[HN.out];exact hlt
    obtain⟨b,off,rfl,hbs,hcs⟩:=HA.out (by omega)
    have hc0:=hcs k hlt
    have HP1:=ξh (HP.out k hkx)
    have HM1:=ξh (HM.out k hkx HT.out)
    clear hcs hkx
    generalize xs[k]?.getD 0=y at *
    by_cases he:y=x
    · have HE:=ξh (HP1.out he)
      have hb2:(y==x)=true:=by simp[he]
      clear he
      go_wp2
      go_ret
      exact⟨by rw[HE.out];rfl,rfl⟩
    · have HE:=ξh (HM1.out he)
      have hb2:(y==x)=false:=by simp[he]
      clear he
      go_wp2
      go_round
      case rel=>exact⟨k+1,by omega,by go_num,HE.out⟩
      case measure=>simp[intOf];omega
  · obtain rfl:k=n:=by omega
    have hall:=HT.out
    rw[←HN.out,List.take_length] at hall
    have HE:=ξh (HO.out hall)
    clear hall
    go_wp2
    go_ret
    exact⟨by rw[HE.out];rfl,rfl⟩
theorem asc_one {xs ys:List Int} (h1:xs.Pairwise (· < ·)) (h2:ys.Pairwise (· < ·)) (h:∀x,x∈xs↔x∈ys):xs=ys:=by
 have hn1:xs.Nodup:=h1.imp fun {a b} h=>by intro e;omega
 have hn2:ys.Nodup:=h2.imp fun {a b} h=>by intro e;omega
 exact List.Perm.eq_of_pairwise (le:=fun a b=>a<b) (fun a b _ _ x y=>by omega) h1 h2 ((List.perm_ext_iff_of_nodup hn1 hn2).2 h)
theorem runP_ids {n:Net} {fs:List Fmt} {gs:List Gro} (hg:GrsP n gs) {k:Nat} {ps:List (List Lgt)} {r:PRun} (h:runP n fs gs k=some (ps,r)) {t:Nat} (ht:t<k) {ls:List Lgt} (hl:ps[t]?= some ls):
 ls.map (·.id)=(((List.range gs.length).filter fun i=>inB t (gwA gs i).s (gwA gs i).e && !(r.bl.contains (i:Int))).map fun i:Nat=>(i:Int)+1):=by
 obtain⟨rt,e1,hr,tl,e2,hb⟩:=(ξaz hg h).2 t ht
 rw[e1] at hl
 cases hl
 refine asc_one (List.pairwise_map.2 hr.srt) (List.pairwise_map.2 ?_) fun x=> ?_
 · refine List.Pairwise.sublist List.filter_sublist (List.pairwise_lt_range.imp fun {a b} h=>by omega)
 · rw[List.mem_map,List.mem_map]
   constructor
   · rintro⟨y,hy,rfl⟩
     obtain⟨j,hj,e,hn,he,hbg⟩:=hr.ids y hy
     refine⟨j,List.mem_filter.2 ⟨List.mem_range.2 hj,?_⟩,e.symm⟩
     have hs:(gwA gs j).s≤t:=by unfold ξae at hbg;omega
     rw[inB_mk hs he,Bool.true_and]
     have:(j:Int) ∉ r.bl:=fun hm=>by
      rw[e2] at hm
      rcases List.mem_append.1 hm with hm | hm
      · exact hn hm
      · obtain⟨i,_,ei,hi⟩:=hb _ hm
        have:i=j:=by omega
        subst this;omega
     simp[this]
   · rintro⟨j,hj,rfl⟩
     obtain⟨hj1,hj2⟩:=List.mem_filter.1 hj
     have hj1:=List.mem_range.1 hj1
     rw[Bool.and_eq_true] at hj2
     have hin:=ξO hj2.1
     have hnb:(j:Int) ∉ r.bl:=by simpa using hj2.2
     obtain⟨x,hx,e⟩:=hr.all j hj1 (by unfold ξae;omega) hin.2 (fun hm=>hnb (by rw[e2];exact List.mem_append_left _ hm))
     exact⟨x,hx,e⟩
section
variable {P : Program}
theorem wpList_push {ops:Array Oper} {rest:List Oper} {o:Oper} {a:Act} {Q:Exit→Act→World→Prop} {wr:World} {y:Int} (hgd:o.guard=none) (s x:Operand) (T:TypeId)
 (ho:o.op= .call {callee:= .builtin .append,args:=#[s,x],argTypes:=#[T,T]}) (ht:P.underlying T=some (.slice 3))
 (hinfo:(P.info? 3).map (fun i=>(i.zero,i.size,i.bytes))=some (some (.int .i64 0),1,8))
 (base:Nat) (v:Value) (n:Nat) (xs:List Int) (hs:a.eval s=v) (hown:wr.ownsRow base 3 1 v n (ints xs))
 (hx:a.eval x= .slice (some ⟨wr.heap.size,0,none⟩) 1 1) (hn:n≤1099511627776) (hbase:base≤wr.heap.size)
 (h:∀v' w',w'.ownsRow base 3 1 v' (n+1) (ints (xs++[y]))→wr.grownBy w' v.ownBlock→wpList P ops Q rest (a.put o.dst v') w'):
 wpList P ops Q (o::rest) a (wr.alloc (.cells #[.int .i64 y] 3)):=by
 obtain⟨i0,hi,hz0,hz1,hz2⟩:=info_parts hinfo
 refine wpList_append_own _ hgd s x T ho base 3 i0 (.int .i64 0) 1 8 ht hi hz0 hz1 hz2 rfl (by decide) v n (ints xs) hs (hown.alloc _) ⟨wr.heap.size,0,none⟩ 1 1 [.int .i64 y] hx rfl ?_ ?_ (by unfold maxLen;omega) (by omega) (by simp;omega) ?_
 · intro j u hu
   rcases j with _ | j
   · simp at hu;subst hu
     simp[Addr.add,World.cell?_alloc_at]
   · simp at hu
 · intro u hu;simp at hu;subst hu;rfl
 · intro v' w' h1 h2 _
   refine h v' w' ?_ ((World.grownBy_alloc _ _ _).trans' h2)
   simpa[ints] using h1
end
end Go.Proofs.YtofcicomhnkocaaGreat
