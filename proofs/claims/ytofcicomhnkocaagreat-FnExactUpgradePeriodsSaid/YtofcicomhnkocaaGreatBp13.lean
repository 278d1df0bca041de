/- Joined: XWlt XWlu XRtc. -/
import Derived.Test.YtofcicomhnkocaaGreatBp12
import Derived.Test.YtofcicomhnkocaaGreatBp10
import Derived.Test.YtofcicomhnkocaaGreatBp09
import Derived.Test.YtofcicomhnkocaaGreatBp06
import Derived.Test.YtofcicomhnkocaaGreatBp07
import Derived.Test.YtofcicomhnkocaaGreatBp11
set_option linter.unusedVariables false
namespace Go.Proofs.YtofcicomhnkocaaGreat
set_option maxHeartbeats 12800000
open Go.RowKit Go.Sort
set_option maxRecDepth 100000
theorem bel_drN {B:Nat} {a w:World} (h:Below B a w) (n:Nat):Below B a (w.drewN n):=⟨h.os,h.tape,h.output,h.size,h.block⟩
theorem ownP_slice {w:World} {lo:Nat} {v:Value} {fb:List Int} (h:Own w lo v fb):∃a n c,v= .slice a n c:=by
 rcases h with h1 | ⟨g,off,cap,cur,h1,-⟩
 · exact⟨_,_,_,h1.1⟩
 · exact⟨_,_,_,h1⟩
theorem own_keep {w w':World} {lo:Nat} {v:Value} {fb:List Int} (h:Own w lo v fb) (hk:∀k,lo≤k→k<w.heap.size→w'.heap[k]?= w.heap[k]?):Own w' lo v fb:=by
 rcases h with h1 | ⟨g,off,cap,cur,h1,h2,⟨T,h3⟩,h4⟩
 · exact .inl h1
 · exact .inr ⟨g,off,cap,cur,h1,h2,⟨T,by rw[hk g h2 (Array.getElem?_eq_some_iff.1 h3).1];exact h3⟩,h4⟩
theorem set2_facts {w:World} {b:Nat} {T:TypeId} {x0 x1 x2 x3 x4:Value} (x y:Value) (h:w.heap[b]?= some (.cells #[x0,x1,x2,x3,x4] T (0,0))):
 ((w.setCell ⟨b,1,none⟩ x).setCell ⟨b,2,none⟩ y).heap[b]?= some (.cells #[x0,x,y,x3,x4] T (0,0))∧
 (∀k,k≠b→((w.setCell ⟨b,1,none⟩ x).setCell ⟨b,2,none⟩ y).heap[k]?= w.heap[k]?)∧
 ((w.setCell ⟨b,1,none⟩ x).setCell ⟨b,2,none⟩ y).heap.size=w.heap.size∧
 ∀(B:Nat) (u:World),B≤b→Below B u w→Below B u ((w.setCell ⟨b,1,none⟩ x).setCell ⟨b,2,none⟩ y):=by
 have q1:=heap_setCell_same w b 1 _ T x h
 have q2:=heap_setCell_same _ b 2 _ T y q1
 refine⟨by rw[q2];simp,fun k hk=> ?_,by simp,fun B u hB hb=> ?_⟩
 · rw[heap_setCell_other _ ⟨b,2,none⟩ k _ hk,heap_setCell_other _ ⟨b,1,none⟩ k _ hk]
 · exact(hb.setCell (p:=⟨b,1,none⟩) hB x).setCell (p:=⟨b,2,none⟩) hB y
def lgtV (x:Lgt) (fv:Value):Value:= .agg #[.int .i64 x.id,.int .i64 x.st,fv,.int .i64 x.fi,.int .i64 x.ct]
theorem withLight_any (v fv:Value) (p:Pln) (x:Lgt) (w:World) (h:PlnR w v p) (hx:Rd w fv x.fb) (hxl:x.fb.length≤1000000) (hn1:p.n.ns.length≤1048576) (hn2:p.n.fs.length≤1048576) (hl:p.ls.length≤1000) (hfb:∀x∈p.ls,x.fb.length≤1000000):
 Calls Tryz.prog 115 #[v,lgtV x fv] w (MkpP ⟨p.n,putL p.ls x⟩ w):=by
 obtain⟨NP,hNP⟩:∃NP,NP=MkpP ⟨p.n,putL p.ls x⟩ w:=⟨_,rfl⟩
 rw[←hNP]
 have HPU:=Lib.hid (fun k (h0:k≤p.ls.length) h1 h2=>@putL_flat p.ls x k h0 h1 h2)
 have HCN:=Lib.hid (fun w' (hb:Below w.heap.size w w')=>copyPlan_any v p w' (h.behind hb) hn1 hn2 hl hfb)
 obtain⟨u1,u2,u3,rfl,r1,r2,r3,hsm⟩:=h
 have hnet:NetR w (.agg #[u1,u2]) p.n:=⟨u1,u2,rfl,r1,r2,hsm⟩
 obtain⟨⟨a1,m1,c1,rfl⟩,a2,m2,c2,rfl⟩:=slice_of_net hnet
 obtain⟨a3,m3,c3,rfl,HN3,hc3,hm3,ha3⟩:=lgt_opn r3
 have HA:=Lib.hid ha3
 have HRX:=Lib.hid (fun(w':World) (hb:Below w.heap.size w w')=>show Rd w' fv x.fb from hx.belowAll hb)
 have HXL:=Lib.hid hxl
 obtain⟨ax,nx,cx,rfl⟩:∃au nu cu,fv= .slice au nu cu:=by
  obtain⟨au,cu,hv,-⟩:=full_ok hx
  exact⟨_,_,_,hv⟩
 have hl3:m3≤1000:=by rw[←HN3.out];exact hl
 obtain⟨n,ls⟩:=p
 obtain⟨xi,xs,xf,xa,xc⟩:=x
 dsimp only[lgtV] at *
 have HB3:=Lib.hid (box3_facts w (.cells #[.slice a1 m1 c1,.slice a2 m2 c2,.slice a3 m3 c3] 75) (.cells #[.int .i64 xi,.int .i64 xs,.slice ax nx cx,.int .i64 xa,.int .i64 xc] 86) (.cells #[.slice none 0 0,.slice none 0 0,.slice none 0 0] 75))
 have HNP:=Lib.hid hNP
 clear r1 r2 r3 hsm hnet ha3 hfb hl hn1 hn2 hNP hx hxl
 go_enter Tryz.func115,Tryz.ntmps115
 go_wp2_with fail
 generalize ((w.alloc (.cells #[.slice a1 m1 c1,.slice a2 m2 c2,.slice a3 m3 c3] 75)).alloc (.cells #[.int .i64 xi,.int .i64 xs,.slice ax nx cx,.int .i64 xa,.int .i64 xc] 86)).alloc (.cells #[.slice none 0 0,.slice none 0 0,.slice none 0 0] 75)=w3 at *
 refine(HCN.out w3 HB3.out.1).mono ?_
 rintro e w4 ⟨u1,u2,u3,B,fp,rfl,hG,b4⟩
 obtain⟨b3,g0,g1,g2,hz3⟩:=HB3.out
 have K0:=Lib.hid (kept_o' g0 b4)
 have K1:=Lib.hid (kept_o' g1 b4)
 have K2:=Lib.hid (kept_o' g2 b4)
 have HB4:=Lib.hid (b3.trans (b4.mono b3.size))
 have HZ3:=Lib.hid hz3
 obtain⟨a5,n5,c5,a6,n6,c6,e⟩:=hG.net.form
 simp only[Value.agg.injEq,Array.mk.injEq,List.cons.injEq,and_true] at e
 obtain⟨rfl,rfl⟩:=e
 obtain⟨-,a7,c7,e⟩:=hG.lig.form
 dsimp only at e
 rw[HN3.out] at e
 subst e
 have HG:=Lib.hid hG
 have HBB:=Lib.hid hG.bas
 clear hG b4 b3 g0 g1 g2 hz3
 go_wp2_with fail
 have k5:=heap_alloc_new w4 (.cells #[.slice a5 n5 c5,.slice a6 n6 c6,.slice a7 m3 c7] 75)
 have b5:=(Below.refl w4.heap.size w4).alloc (Nat.le_refl _) (.cells #[.slice a5 n5 c5,.slice a6 n6 c6,.slice a7 m3 c7] 75)
 have hz5:(w4.alloc (.cells #[.slice a5 n5 c5,.slice a6 n6 c6,.slice a7 m3 c7] 75)).heap.size=w4.heap.size+1:=by simp
 have HK5:=Lib.hid k5
 have HB5:=Lib.hid b5
 have HZ5:=Lib.hid hz5
 clear k5 b5 hz5
 generalize w4.alloc (.cells #[.slice a5 n5 c5,.slice a6 n6 c6,.slice a7 m3 c7] 75)=w5 at *
 go_loopw [6] (fun i wr=>∃k:Nat,k≤m3∧i= .int .i64 k∧Hid (∀j,j<k→(ls[j]?.getD nilL).id<xi)∧Hid (Below w5.heap.size w5 wr)) (fun i _=>m3-(intOf i).toNat)
 case atStart=>exact⟨0,Nat.zero_le _,rfl,fun j hj=>absurd hj (Nat.not_lt_zero j),Below.refl _ _⟩
 case round=>
  obtain⟨k,hk,rfl,HT,HB⟩:=hrel
  have HBW:=Lib.hid (HB4.out.trans ((HB5.out.trans (HB.out.mono HB5.out.size)).mono HB4.out.size))
  have x0:wr.heap[w.heap.size]?= _:=(HB.out.block _ (by have:=HZ5.out;have:=HB4.out.size;omega)).trans (kept_o' K0.out HB5.out)
  have x1:wr.heap[w.heap.size+1]?= _:=(HB.out.block _ (by have:=(Array.getElem?_eq_some_iff.1 K1.out).1;have:=HZ5.out;omega)).trans (kept_o' K1.out HB5.out)
  have y02:=blkc x0 (j:=2) (u:= .slice a3 m3 c3) rfl
  have y10:=blkc x1 (j:=0) (u:= .int .i64 xi) rfl
  clear x0 x1
  by_cases hlt:k<m3
  case' pos=>
   have hltI:(k:Int)<(m3:Int):=by omega
   obtain⟨b3,o3,rfl,hbl,hcs⟩:=HA.out (by omega)
   obtain⟨u,e0,-⟩:=hcs k hlt
   have e0:=(HBW.out.cell (p:=⟨b3,o3+k*5,none⟩) hbl).trans e0
   clear hcs hbl
   by_cases hd:(ls[k]?.getD nilL).id<xi
   · have HD:=Lib.hid (show∀j,j<k+1→(ls[j]?.getD nilL).id<xi from fun j hj=>by
      rcases Nat.lt_succ_iff_lt_or_eq.1 hj with h | rfl
      · exact HT.out j h
      · exact hd)
     generalize (ls[k]?.getD nilL).id=yi at *
     go_wp2
     go_quiet (fail)
     go_wp2
     go_roundw
     exact⟨k+1,by omega,by simp,HD.out,bel_drN HB.out _⟩
     simp[intOf];omega
   have HPK:=Lib.hid (HPU.out k (by rw[HN3.out];exact hk) HT.out (fun _=>by first | exact hd | exact Int.not_lt.1 hd))
   generalize (ls[k]?.getD nilL).id=yi at *
   go_wp2
   go_quiet (fail)
   rename_i nq
   have HB6:=Lib.hid (bel_drN HB.out nq)
   generalize wr.drewN nq=w6 at *
   go_upto_region 4 with fail
   clear e0 hd
  case' neg=>
   have HPK:=Lib.hid (HPU.out k (by rw[HN3.out];exact hk) HT.out (fun h=>absurd (by rw[HN3.out] at h;exact h) hlt))
   have hltI:¬(k:Int)<(m3:Int):=by omega
   go_wp2
   go_quiet (fail)
   rename_i nq
   have HB6:=Lib.hid (bel_drN HB.out nq)
   generalize wr.drewN nq=w6 at *
   go_upto_region 4 with fail
  all_goals
   have HZL:=Lib.hid (show w.heap.size+1+1+1≤w4.heap.size from by have:=HBB.out;have:=HZ3.out;omega)
   have HBX:=Lib.hid (show Below w4.heap.size w4 w6 from HB5.out.trans (HB6.out.mono HB5.out.size))
   have HBW6:=Lib.hid (HB4.out.trans (HBX.out.mono HB4.out.size))
   have hx1:w6.heap[w.heap.size+1]?= _:=kept_o' K1.out HBX.out
   have y10:=blkc hx1 (j:=0) (u:= .int .i64 xi) rfl
   have y11:=blkc hx1 (j:=1) (u:= .int .i64 xs) rfl
   have y12:=blkc hx1 (j:=2) (u:= .slice ax nx cx) rfl
   clear HB HBW HCN HA y02 hltI
   go_wp2_with fail
   refine(copyRoute_any _ xs xf w6 (HRX.out _ HBW6.out) HXL.out).mono ?_
   rintro e w7 ⟨v9,rfl,o7,b7⟩
   obtain⟨a9,n9,c9,rfl⟩:=ownP_slice o7
   have h7l:=kept_o' hx1 b7
   obtain⟨q8,o8,s8,b8⟩:=set2_facts (.int .i64 xs) (.slice a9 n9 c9) h7l
   have z1:=blkc h7l (j:=1) (u:= .int .i64 xs) rfl
   have z2:=blkc h7l (j:=2) (u:= .slice ax nx cx) rfl
   have f1:w7.frozen? ⟨w.heap.size+1,1,none⟩=false:=frozen_of_row _ _ _ _ _ h7l
   have f2:w7.frozen? ⟨w.heap.size+1,2,none⟩=false:=frozen_of_row _ _ _ _ _ h7l
   have HB7:=Lib.hid b7
   have HS7:=Lib.hid (b7.size)
   have HO7:=Lib.hid o7
   have HQ8:=Lib.hid q8
   have HO8:=Lib.hid o8
   have HS8:=Lib.hid s8
   have HB8:=Lib.hid (b8 w.heap.size w (Nat.le_succ _) (HBW6.out.trans (b7.mono HBW6.out.size)))
   clear b7 o7 h7l q8 o8 s8 b8 hx1 y10 y11 y12
   go_upto_region 5 with fail
   generalize (w7.setCell ⟨w.heap.size+1,1,none⟩ (.int .i64 xs)).setCell ⟨w.heap.size+1,2,none⟩ (.slice a9 n9 c9)=w8 at *
   clear z1 z2 f1 f2
   have HK8:=Lib.hid (show∀j,j≠w.heap.size+1→j<w6.heap.size→w8.heap[j]?= w6.heap[j]? from fun j h1 h2=>(HO8.out j h1).trans (HB7.out.block j h2))
   have hbx:w8.heap[w4.heap.size]?= _:=(HK8.out _ (by have:=HZL.out;omega) (by have:=HB6.out.size;have:=HZ5.out;omega)).trans (kept_o' HK5.out HB6.out)
   have HX8:=Lib.hid hbx
   have y2:=blkc hbx (j:=2) (u:= .slice a7 m3 c7) rfl
   have z0:=blkc HQ8.out (j:=0) (u:= .int .i64 xi) rfl
   have z1:=blkc HQ8.out (j:=1) (u:= .int .i64 xs) rfl
   have z2:=blkc HQ8.out (j:=2) (u:= .slice a9 n9 c9) rfl
   have z3:=blkc HQ8.out (j:=3) (u:= .int .i64 xa) rfl
   have z4:=blkc HQ8.out (j:=4) (u:= .int .i64 xc) rfl
   clear hbx
   go_wp2_with fail
   have HV9:=Lib.hid (heap_alloc_new w8 (.cells #[.int .i64 xi,.int .i64 xs,.slice a9 n9 c9,.int .i64 xa,.int .i64 xc] 86))
   have HL9:=Lib.hid (fun j (hj:j<w8.heap.size)=>heap_alloc_old w8 (.cells #[.int .i64 xi,.int .i64 xs,.slice a9 n9 c9,.int .i64 xa,.int .i64 xc] 86) hj)
   have HB9:=Lib.hid (HB8.out.alloc HB8.out.size (.cells #[.int .i64 xi,.int .i64 xs,.slice a9 n9 c9,.int .i64 xa,.int .i64 xc] 86))
   have HS9:=Lib.hid (show(w8.alloc (.cells #[.int .i64 xi,.int .i64 xs,.slice a9 n9 c9,.int .i64 xa,.int .i64 xc] 86)).heap.size=w8.heap.size+1 from by simp)
   clear y2 z0 z1 z2 z3 z4
   generalize hvb:w8.heap.size=vb at HV9 HS9 ⊢
   have HVB:=Lib.hid hvb
   clear hvb
   generalize w8.alloc (.cells #[.int .i64 xi,.int .i64 xs,.slice a9 n9 c9,.int .i64 xa,.int .i64 xc] 86)=w9 at *
   obtain⟨us,fs,r4,gp⟩:=Grw.parts HG.out.lig
   dsimp only at r4 gp
   rw[HN3.out] at r4
   have hsz:w4.heap.size<w6.heap.size∧w6.heap.size≤w7.heap.size:=⟨by have:=HB6.out.size;have:=HZ5.out;omega,HS7.out⟩
   have hv7:∀g,(Value.slice a7 m3 c7).ownBlock=some g→B≤g∧g<w4.heap.size:=fun g hg=>r4.lt g hg
   have hk9:∀j,j≠w.heap.size+1→j<w6.heap.size→w9.heap[j]?= w6.heap[j]?:=fun j h1 h2=>(HL9.out j (by have:=HS8.out;omega)).trans (HK8.out j h1 h2)
   have hk4:∀j,j≠w.heap.size+1→j<w4.heap.size→w9.heap[j]?= w4.heap[j]?:=fun j h1 h2=>(hk9 j h1 (by omega)).trans (HBX.out.block j h2)
   have hzl:=HZL.out
   have hz3:=HZ3.out
   have hbb:=HBB.out
   have hs8:=HS8.out
   have hs9:=HS9.out
   have hvb:=HVB.out
   have r9:w9.ownsRow B 86 5 (.slice a7 m3 c7) m3 us:=own_kept r4 fun g hg=>hk4 g (by have:=hv7 g hg;omega) (hv7 g hg).2
   have hdl:(ls.flatMap lgtD).length=m3*5:=by rw[←gp.ul];exact r4.1
   have HGP:=Lib.hid gp
   refine(insertL_any w9 B m3 k vb (.slice a7 m3 c7) us [.int .i64 xi,.int .i64 xs,.slice a9 n9 c9,.int .i64 xa,.int .i64 xc] r9 (by omega) hl3 hk rfl HV9.out (fun g hg=>by have:=hv7 g hg;omega) (fun z hz=>by simp only[List.mem_cons,List.not_mem_nil,or_false] at hz;rcases hz with e | e | e | e | e <;> rw[e] <;> rfl) (lgt_one gp.ul gp.fl gp.el)).mono ?_
   rintro e w10 ⟨v10,rfl,o10,g10,l10⟩
   obtain⟨a10,c10,rfl⟩:=rowf o10
   have hbx10:w10.heap[w4.heap.size]?= _:=(g10.block _ (by omega) (fun e=>by have:=hv7 _ e.symm;omega)).trans ((hk9 _ (by omega) hsz.1).trans (kept_o' HK5.out HB6.out))
   have hr10:w10.heap[w.heap.size+1+1]?= _:=(g10.block _ (by omega) (fun e=>by have:=hv7 _ e.symm;omega)).trans ((hk4 _ (by omega) (by omega)).trans K2.out)
   have q11:=heap_setCell_same w10 w4.heap.size 2 _ 75 (.slice a10 (m3+1) c10) hbx10
   have o11:∀j,j≠w4.heap.size→(w10.setCell ⟨w4.heap.size,2,none⟩ (.slice a10 (m3+1) c10)).heap[j]?= w10.heap[j]?:=fun j hj=>heap_setCell_other _ ⟨w4.heap.size,2,none⟩ j _ hj
   have s11:(w10.setCell ⟨w4.heap.size,2,none⟩ (.slice a10 (m3+1) c10)).heap.size=w10.heap.size:=by simp
   have b10:Below w.heap.size w w10:=Below.grown HB9.out g10 HB9.out.size (fun q hq=>by have:=hv7 q hq;omega)
   have HB11:=Lib.hid (b10.setCell (p:=⟨w4.heap.size,2,none⟩) (by show w.heap.size≤w4.heap.size;omega) (.slice a10 (m3+1) c10))
   have f2:w10.frozen? ⟨w4.heap.size,2,none⟩=false:=frozen_of_row _ _ _ _ _ hbx10
   have y2:=blkc hbx10 (j:=2) (u:= .slice a7 m3 c7) rfl
   have HR10:=Lib.hid hr10
   have HO11:=Lib.hid o11
   have HQ11:=Lib.hid (show(w10.setCell ⟨w4.heap.size,2,none⟩ (.slice a10 (m3+1) c10)).heap[w4.heap.size]?= some (.cells #[.slice a5 n5 c5,.slice a6 n6 c6,.slice a10 (m3+1) c10] 75) from by rw[q11];simp)
   have HS11:=Lib.hid s11
   have HS10:=Lib.hid g10.size
   have HG10:=Lib.hid g10
   have HO10:=Lib.hid o10
   have HL10:=Lib.hid l10
   have HSZ:=Lib.hid hsz
   have HV7:=Lib.hid hv7
   have HKK9:=Lib.hid hk9
   have HK4:=Lib.hid hk4
   have HDL:=Lib.hid hdl
   clear r4 gp hsz hv7 hk9 hk4 hzl hz3 hbb hs8 hs9 hvb r9 hdl o10 g10 l10 hbx10 hr10 q11 o11 s11 b10
   go_upto_region 6 with fail
   generalize w10.setCell ⟨w4.heap.size,2,none⟩ (.slice a10 (m3+1) c10)=w11 at *
   clear f2 y2
   have hr11:=(HO11.out _ (by have:=HZL.out;omega)).trans HR10.out
   obtain⟨q12,o12,s12,b12⟩:=set3_facts (.slice a5 n5 c5) (.slice a6 n6 c6) (.slice a10 (m3+1) c10) hr11
   have y0:=blkc HQ11.out (j:=0) (u:= .slice a5 n5 c5) rfl
   have y1:=blkc HQ11.out (j:=1) (u:= .slice a6 n6 c6) rfl
   have y2:=blkc HQ11.out (j:=2) (u:= .slice a10 (m3+1) c10) rfl
   have z0:=blkc hr11 (j:=0) (u:= .slice none 0 0) rfl
   have z1:=blkc hr11 (j:=1) (u:= .slice none 0 0) rfl
   have z2:=blkc hr11 (j:=2) (u:= .slice none 0 0) rfl
   have f0:w11.frozen? ⟨w.heap.size+1+1,0,none⟩=false:=frozen_of_row _ _ _ _ _ hr11
   have f1:w11.frozen? ⟨w.heap.size+1+1,1,none⟩=false:=frozen_of_row _ _ _ _ _ hr11
   have f2:w11.frozen? ⟨w.heap.size+1+1,2,none⟩=false:=frozen_of_row _ _ _ _ _ hr11
   have HQ12:=Lib.hid q12
   have HO12:=Lib.hid o12
   have HS12:=Lib.hid s12
   have HB12:=Lib.hid (b12 w.heap.size w (by omega) HB11.out)
   clear hr11 q12 o12 s12 b12
   go_wp2_with fail
   generalize ((w11.setCell ⟨w.heap.size+1+1,0,none⟩ (.slice a5 n5 c5)).setCell ⟨w.heap.size+1+1,1,none⟩ (.slice a6 n6 c6)).setCell ⟨w.heap.size+1+1,2,none⟩ (.slice a10 (m3+1) c10)=w12 at *
   clear y0 y1 y2 z0 z1 z2 f0 f1 f2
   have t0:=blkc HQ12.out (j:=0) (u:= .slice a5 n5 c5) rfl
   have t1:=blkc HQ12.out (j:=1) (u:= .slice a6 n6 c6) rfl
   have t2:=blkc HQ12.out (j:=2) (u:= .slice a10 (m3+1) c10) rfl
   have hFIN:∀j,j≠w.heap.size+1+1→j≠w4.heap.size→w12.heap[j]?= w10.heap[j]?:=fun j h1 h2=>(HO12.out j h1).trans (HO11.out j h2)
   have hzl:=HZL.out
   have hz3:=HZ3.out
   have hbb:=HBB.out
   have hs8:=HS8.out
   have hs9:=HS9.out
   have hvb:=HVB.out
   have hsz:=HSZ.out
   have hs10:=HS10.out
   have hs11:=HS11.out
   have hs12:=HS12.out
   have hK12:∀j,B≤j∨(w3.heap.size≤j∧j<B)→j<w4.heap.size→(Value.slice a7 m3 c7).ownBlock≠some j→w12.heap[j]?= w4.heap[j]?:=fun j h0 h1 h2=>
    (hFIN j (by omega) (by omega)).trans ((HG10.out.block j (by omega) (fun e=>h2 e.symm)).trans (HK4.out j (by omega) h1))
   obtain⟨hp1,hp2⟩:=HPK.out
   have hlig:Grw w12 B 86 5 (.slice a10 (m3+1) c10) (m3+1) ((putL ls ⟨xi,xs,xf,xa,xc⟩).flatMap lgtD):=by
    rw[hp1]
    refine GrP.ins (w:=w4) (w2:=w9) (lo:=w6.heap.size) HGP.out (fun g hg=>(HV7.out g hg).2) (by omega) (by omega) (by omega) (newLgt (x:=⟨xi,xs,xf,xa,xc⟩) (own_keep HO7.out fun j h1 h2=>(HL9.out j (by omega)).trans (HO8.out j (by omega)))) (own_kept HO10.out fun g hg=> ?_) (by rw[HDL.out];omega) (fun j h0 h1 h2=>hK12 j (.inl h0) h1 h2) (fun j h0 h1=>(hFIN j (by omega) (by omega)).trans (HG10.out.block j h1 (fun e=>by have:=HV7.out _ e.symm;omega))) HL10.out
    rcases HL10.out with e | ⟨g',e,h⟩
    · rw[e] at hg
      have:=HV7.out g hg
      exact hFIN g (by omega) (by omega)
    · rw[e] at hg
      obtain rfl:=Option.some.inj hg
      exact hFIN _ (by omega) (by omega)
   rw[HNP.out]
   exact bodyPost_ret (v:= .agg #[.slice a5 n5 c5,.slice a6 n6 c6,.slice a10 (m3+1) c10]) (by simp[results,Tryz.results115,go_sem,t0,t1,t2]) rfl ⟨_,_,_,B,fp,rfl,⟨HG.out.net.keepP fun j hj=>by have:=HG.out.fpr j hj;exact hK12 j (.inr ⟨this.1,this.2⟩) (by omega) (fun e=>by have:=HV7.out j e;omega),HG.out.nod,fun j hj=>by have:=HG.out.fpr j hj;omega,⟨by omega,by omega⟩,by(try dsimp only);rw[hp2,HN3.out];exact hlig⟩,HB12.out⟩
theorem eraseL_flat {ls:List Lgt} {i:Nat} (hi:i<ls.length):(ls.eraseIdx i).flatMap lgtD=(ls.flatMap lgtD).take (i*5)++(ls.flatMap lgtD).drop ((i+1)*5)∧(ls.eraseIdx i).length=ls.length-1:=by
 rw[List.eraseIdx_eq_take_drop_succ,lgs_take,lgs_drop]
 refine⟨by simp,by simp;omega⟩
theorem box2_facts (w:World) (A B:Obj):Below w.heap.size w ((w.alloc A).alloc B)∧((w.alloc A).alloc B).heap[w.heap.size]?= some A∧((w.alloc A).alloc B).heap[w.heap.size+1]?= some B∧((w.alloc A).alloc B).heap.size=w.heap.size+1+1:=by
 have b1:=(Below.refl w.heap.size w).alloc (Nat.le_refl _) A
 have b2:=b1.alloc b1.size B
 have k0:=heap_alloc_new w A
 have k0':=(heap_alloc_old _ B (Array.getElem?_eq_some_iff.1 k0).1).trans k0
 have k1:=heap_alloc_new (w.alloc A) B
 rw[show(w.alloc A).heap.size=w.heap.size+1 by simp] at k1
 exact⟨b2,k0',k1,by simp⟩
theorem withoutLight_any (v:Value) (p:Pln) (i:Nat) (w:World) (h:PlnR w v p) (hi:i<p.ls.length) (hn1:p.n.ns.length≤1048576) (hn2:p.n.fs.length≤1048576) (hl:p.ls.length≤1000) (hfb:∀x∈p.ls,x.fb.length≤1000000):
 Calls Tryz.prog 113 #[v,.int .i64 (i:Int)] w (MkpP ⟨p.n,p.ls.eraseIdx i⟩ w):=by
 obtain⟨NP,hNP⟩:∃NP,NP=MkpP ⟨p.n,p.ls.eraseIdx i⟩ w:=⟨_,rfl⟩
 rw[←hNP]
 have HPU:=Lib.hid (eraseL_flat hi)
 have HCN:=Lib.hid (fun w' (hb:Below w.heap.size w w')=>copyPlan_any v p w' (h.behind hb) hn1 hn2 hl hfb)
 obtain⟨u1,u2,u3,rfl,r1,r2,r3,hsm⟩:=h
 have hnet:NetR w (.agg #[u1,u2]) p.n:=⟨u1,u2,rfl,r1,r2,hsm⟩
 obtain⟨⟨a1,m1,c1,rfl⟩,a2,m2,c2,rfl⟩:=slice_of_net hnet
 obtain⟨a3,m3,c3,rfl,HN3,hc3,hm3,ha3⟩:=lgt_opn r3
 have hl3:m3≤1000:=by rw[←HN3.out];exact hl
 have hi3:i<m3:=by rw[←HN3.out];exact hi
 have hii:(i:Int)≤1000:=by omega
 obtain⟨n,ls⟩:=p
 dsimp only at *
 have HB3:=Lib.hid (box2_facts w (.cells #[.slice a1 m1 c1,.slice a2 m2 c2,.slice a3 m3 c3] 75) (.cells #[.slice none 0 0,.slice none 0 0,.slice none 0 0] 75))
 have HNP:=Lib.hid hNP
 clear r1 r2 r3 hsm hnet ha3 hfb hl hn1 hn2 hNP hi
 go_enter Tryz.func113,Tryz.ntmps113
 go_wp2_with fail
 generalize (w.alloc (.cells #[.slice a1 m1 c1,.slice a2 m2 c2,.slice a3 m3 c3] 75)).alloc (.cells #[.slice none 0 0,.slice none 0 0,.slice none 0 0] 75)=w3 at *
 refine(HCN.out w3 HB3.out.1).mono ?_
 rintro e w4 ⟨u1,u2,u3,B,fp,rfl,hG,b4⟩
 obtain⟨b3,g0,g1,hz3⟩:=HB3.out
 have K1:=Lib.hid (kept_o' g1 b4)
 have HB4:=Lib.hid (b3.trans (b4.mono b3.size))
 have HZ3:=Lib.hid hz3
 obtain⟨a5,n5,c5,a6,n6,c6,e⟩:=hG.net.form
 simp only[Value.agg.injEq,Array.mk.injEq,List.cons.injEq,and_true] at e
 obtain⟨rfl,rfl⟩:=e
 have HBB:=Lib.hid hG.bas
 obtain⟨us,fs,r4,gp⟩:=Grw.parts hG.lig
 dsimp only at r4 gp
 rw[HN3.out] at r4
 obtain⟨g,cap,cur,rfl,q1,q2,q3,q4,q5,q6⟩:∃g cap cur,u3= .slice (some ⟨g,0,none⟩) m3 cap∧_:=by
  rcases r4.2 with ⟨e1,e2⟩ | h
  · omega
  · exact h
 have HG:=Lib.hid hG
 have HGP:=Lib.hid gp
 have HR4:=Lib.hid r4
 have HQ:=Lib.hid (show B≤g∧w4.heap[g]?= some (.cells cur 86 (0,0))∧m3≤cap∧cap≤maxLen∧cur.size=cap*5∧cur.toList.take (m3*5)=us from⟨q1,q2,q3,q4,q5,q6⟩)
 have HL1:=Lib.hid (lgt_one gp.ul gp.fl gp.el)
 have HGL:=Lib.hid (Array.getElem?_eq_some_iff.1 q2).1
 clear hG b4 b3 g0 g1 hz3 q1 q2 q3 q4 q5 q6 gp r4 HCN
 go_upto_region 2 with fail
 have k5:=heap_alloc_new w4 (.cells #[.slice a5 n5 c5,.slice a6 n6 c6,.slice (some ⟨g,0,none⟩) m3 cap] 75)
 have b5:=(Below.refl w4.heap.size w4).alloc (Nat.le_refl _) (.cells #[.slice a5 n5 c5,.slice a6 n6 c6,.slice (some ⟨g,0,none⟩) m3 cap] 75)
 have hz5:(w4.alloc (.cells #[.slice a5 n5 c5,.slice a6 n6 c6,.slice (some ⟨g,0,none⟩) m3 cap] 75)).heap.size=w4.heap.size+1:=by simp
 have HK5:=Lib.hid k5
 have HB5:=Lib.hid b5
 have HZ5:=Lib.hid hz5
 clear k5 b5 hz5
 generalize w4.alloc (.cells #[.slice a5 n5 c5,.slice a6 n6 c6,.slice (some ⟨g,0,none⟩) m3 cap] 75)=w5 at *
 have y2:=blkc HK5.out (j:=2) (u:= .slice (some ⟨g,0,none⟩) m3 cap) rfl
 have hdel:=deleteL_any w5 B m3 cap i g us cur HQ.out.1 (kept_o' HQ.out.2.1 HB5.out) HQ.out.2.2.2.2.1 HQ.out.2.2.2.2.2 HR4.out.1 hi3 HQ.out.2.2.1 HQ.out.2.2.2.1 hl3 HL1.out
 rw[show((i+1:Nat):Int)=(i:Int)+1 by omega] at hdel
 have HDEL:=Lib.hid hdel
 clear hdel
 go_wp2_with fail
 refine HDEL.out.mono ?_
 rintro e w10 ⟨rfl,o10,g10⟩
 have hzl:w.heap.size+1+1≤w4.heap.size:=by have:=HBB.out;have:=HZ3.out;omega
 have hgl:=HGL.out
 have hgb:=HQ.out.1
 have hbb:=HBB.out
 have hz3:=HZ3.out
 have hbx10:w10.heap[w4.heap.size]?= _:=(g10.block _ (by have:=HZ5.out;omega) (fun e=>by have:=Option.some.inj e;omega)).trans HK5.out
 have hr10:w10.heap[w.heap.size+1]?= _:=(g10.block _ (by have:=HZ5.out;omega) (fun e=>by have:=Option.some.inj e;omega)).trans (kept_o' K1.out HB5.out)
 have q11:=heap_setCell_same w10 w4.heap.size 2 _ 75 (.slice (some ⟨g,0,none⟩) (m3-1) cap) hbx10
 have o11:∀j,j≠w4.heap.size→(w10.setCell ⟨w4.heap.size,2,none⟩ (.slice (some ⟨g,0,none⟩) (m3-1) cap)).heap[j]?= w10.heap[j]?:=fun j hj=>heap_setCell_other _ ⟨w4.heap.size,2,none⟩ j _ hj
 have s11:(w10.setCell ⟨w4.heap.size,2,none⟩ (.slice (some ⟨g,0,none⟩) (m3-1) cap)).heap.size=w10.heap.size:=by simp
 have b10:Below w.heap.size w w10:=Below.grown (HB4.out.trans (HB5.out.mono HB4.out.size)) g10 (by have:=HZ5.out;omega) (fun q hq=>by have:=Option.some.inj hq;omega)
 have HB11:=Lib.hid (b10.setCell (p:=⟨w4.heap.size,2,none⟩) (by show w.heap.size≤w4.heap.size;omega) (.slice (some ⟨g,0,none⟩) (m3-1) cap))
 have f2:w10.frozen? ⟨w4.heap.size,2,none⟩=false:=frozen_of_row _ _ _ _ _ hbx10
 clear y2
 have y2:=blkc hbx10 (j:=2) (u:= .slice (some ⟨g,0,none⟩) m3 cap) rfl
 have HR10:=Lib.hid hr10
 have HO11:=Lib.hid o11
 have HQ11:=Lib.hid (show(w10.setCell ⟨w4.heap.size,2,none⟩ (.slice (some ⟨g,0,none⟩) (m3-1) cap)).heap[w4.heap.size]?= some (.cells #[.slice a5 n5 c5,.slice a6 n6 c6,.slice (some ⟨g,0,none⟩) (m3-1) cap] 75) from by rw[q11];simp)
 have HS11:=Lib.hid s11
 have HS10:=Lib.hid g10.size
 have HG10:=Lib.hid g10
 have HO10:=Lib.hid o10
 clear o10 g10 hbx10 hr10 q11 o11 s11 b10 hzl hgl hgb hbb hz3
 go_upto_region 3 with fail
 generalize w10.setCell ⟨w4.heap.size,2,none⟩ (.slice (some ⟨g,0,none⟩) (m3-1) cap)=w11 at *
 clear f2 y2
 have hr11:=(HO11.out _ (by have:=HBB.out;have:=HZ3.out;omega)).trans HR10.out
 obtain⟨q12,o12,s12,b12⟩:=set3_facts (.slice a5 n5 c5) (.slice a6 n6 c6) (.slice (some ⟨g,0,none⟩) (m3-1) cap) hr11
 have y0:=blkc HQ11.out (j:=0) (u:= .slice a5 n5 c5) rfl
 have y1:=blkc HQ11.out (j:=1) (u:= .slice a6 n6 c6) rfl
 have y2:=blkc HQ11.out (j:=2) (u:= .slice (some ⟨g,0,none⟩) (m3-1) cap) rfl
 have z0:=blkc hr11 (j:=0) (u:= .slice none 0 0) rfl
 have z1:=blkc hr11 (j:=1) (u:= .slice none 0 0) rfl
 have z2:=blkc hr11 (j:=2) (u:= .slice none 0 0) rfl
 have f0:w11.frozen? ⟨w.heap.size+1,0,none⟩=false:=frozen_of_row _ _ _ _ _ hr11
 have f1:w11.frozen? ⟨w.heap.size+1,1,none⟩=false:=frozen_of_row _ _ _ _ _ hr11
 have f2:w11.frozen? ⟨w.heap.size+1,2,none⟩=false:=frozen_of_row _ _ _ _ _ hr11
 have HQ12:=Lib.hid q12
 have HO12:=Lib.hid o12
 have HS12:=Lib.hid s12
 have HB12:=Lib.hid (b12 w.heap.size w (by omega) HB11.out)
 clear hr11 q12 o12 s12 b12
 go_wp2_with fail
 generalize ((w11.setCell ⟨w.heap.size+1,0,none⟩ (.slice a5 n5 c5)).setCell ⟨w.heap.size+1,1,none⟩ (.slice a6 n6 c6)).setCell ⟨w.heap.size+1,2,none⟩ (.slice (some ⟨g,0,none⟩) (m3-1) cap)=w12 at *
 clear y0 y1 y2 z0 z1 z2 f0 f1 f2
 have t0:=blkc HQ12.out (j:=0) (u:= .slice a5 n5 c5) rfl
 have t1:=blkc HQ12.out (j:=1) (u:= .slice a6 n6 c6) rfl
 have t2:=blkc HQ12.out (j:=2) (u:= .slice (some ⟨g,0,none⟩) (m3-1) cap) rfl
 have hFIN:∀j,j≠w.heap.size+1→j≠w4.heap.size→w12.heap[j]?= w10.heap[j]?:=fun j h1 h2=>(HO12.out j h1).trans (HO11.out j h2)
 have hz3:=HZ3.out
 have hbb:=HBB.out
 have hz5:=HZ5.out
 have hs10:=HS10.out
 have hs11:=HS11.out
 have hs12:=HS12.out
 have hgl:=HGL.out
 have hgb:=HQ.out.1
 have hK12:∀j,w3.heap.size≤j→j<w4.heap.size→(Value.slice (some ⟨g,0,none⟩) m3 cap).ownBlock≠some j→w12.heap[j]?= w4.heap[j]?:=fun j h0 h1 h2=>
  (hFIN j (by omega) (by omega)).trans ((HG10.out.block j (by omega) (fun e=>h2 e.symm)).trans (HB5.out.block j h1))
 obtain⟨hp1,hp2⟩:=HPU.out
 have hdl:(ls.flatMap lgtD).length=m3*5:=by rw[←HGP.out.ul];exact HR4.out.1
 have hlig:Grw w12 B 86 5 (.slice (some ⟨g,0,none⟩) (m3-1) cap) (m3-1) ((ls.eraseIdx i).flatMap lgtD):=by
  rw[hp1]
  refine GrP.del (n:=m3) (w:=w4) HGP.out (own_kept HO10.out fun k hk=> ?_) (by omega) (by rw[hdl];omega) (fun j h0 h1 h2=>hK12 j (by omega) h1 h2) rfl
  have:g=k:=Option.some.inj hk
  exact hFIN k (by omega) (by omega)
 rw[HNP.out]
 exact bodyPost_ret (v:= .agg #[.slice a5 n5 c5,.slice a6 n6 c6,.slice (some ⟨g,0,none⟩) (m3-1) cap]) (by simp[results,Tryz.results113,go_sem,t0,t1,t2]) rfl ⟨_,_,_,B,fp,rfl,⟨HG.out.net.keepP fun j hj=>by have:=HG.out.fpr j hj;exact hK12 j this.1 (by omega) (fun e=>by have:g=j:=Option.some.inj e;omega),HG.out.nod,fun j hj=>by have:=HG.out.fpr j hj;omega,⟨by omega,by omega⟩,by(try dsimp only);rw[hp2,HN3.out];exact hlig⟩,HB12.out⟩
theorem nodup_len:∀(m:Nat) {xs:List Int},xs.Nodup→(∀x∈xs,0≤x∧x<(m:Int))→xs.length≤m
 | 0,xs,_,h=>by
   cases xs with
   | nil=>simp
   | cons x xs=>have:=h x (by simp);omega
 | m+1,xs,hn,h=>by
   have h2:∀x∈xs.erase (m:Int),0≤x∧x<(m:Int):=fun x hx=>by
    have hm:=(List.Nodup.mem_erase_iff hn).1 hx
    have:=h x hm.2
    omega
   have:=nodup_len m (hn.erase _) h2
   by_cases hm:(m:Int)∈xs
   · rw[List.length_erase_of_mem hm] at this;omega
   · rw[List.erase_of_not_mem hm] at this;omega
theorem cloneI_any (v:Value) (xs:List Int) (w:World) (h:Rd w v xs) (h0:0<xs.length) (hl:xs.length≤1000000):
 Calls Tryz.prog 239 #[v] w fun e w'=>∃v',e= .returned v'∧Own w' w.heap.size v' xs∧Below w.heap.size w w':=by
 have hrd:=h.belowAll (((Below.refl _ _).alloc (Nat.le_refl _) _:Below w.heap.size w (w.alloc (.cells #[] 3))))
 obtain⟨a,cap,n,HX,rfl,_,_,ha⟩:=h.opn
 obtain⟨b,off,rfl,_,_⟩:=ha (by rw[←HX.out];exact h0)
 have hn:n≤1000000:=by rw[←HX.out];exact hl
 have HC:=Lib.hid (fun j u (hu:(ints xs)[j]?= some u)=>hrd.cellsOf _ rfl j u hu)
 have hnil:∀w:World,(binOp .eql 58 (.slice (some ⟨b,off,none⟩) n cap) (.slice none 0 0)).run Tryz.prog w= .ok (.bool false) w:=fun _=>rfl
 go_enter Tryz.func239,Tryz.ntmps239
 go_wp2_with (at_builtin;refine wpList_catG rfl (.tmp 5) (.tmp 6) 58 3 rfl Tryz.underlying58 (.int .i64 0) 1 8 Tryz.infoInt rfl (by decide) w.heap.size (.slice (some ⟨w.heap.size,0,none⟩) 0 0) 0 [] (by rfl) (World.ownsRow_made w #[] 0 (Nat.le_refl _) (Nat.zero_le _) (by simp)) (some ⟨b,off,none⟩) n cap (ints xs) (by rfl) (by simp[ints,HX.out]) (fun e=>by cases e) (fun ad e j u hu=>by cases e;exact HC.out j u hu) (fun u hu=>by obtain⟨z,-,rfl⟩:=List.mem_map.1 hu;rfl) (by unfold maxLen;omega) (by omega) (by simp) ?_;intro v' w1 hown1 hgrow1 hl1)
 go_ret
 exact⟨_,rfl,own_of_row (by rw[Nat.zero_add,←HX.out] at hown1;exact hown1),((Below.refl _ _).alloc (Nat.le_refl _) _).grown hgrow1 (by simp) (fun k hk=>by have e:w.heap.size=k:=(by simpa[Value.ownBlock] using hk);exact Nat.le_of_eq e)⟩
def SeenM (M:Nat) (seen:List Int):Prop:=M<256∧ ∀j:Nat,j<8→(M.testBit j=true↔(j:Int)∈seen)
theorem SeenM.next {M:Nat} {seen:List Int} {k:Nat} (h:SeenM M seen) (hk:k<8):SeenM (M ||| 2 ^ k) (seen++[(k:Int)]):=by
 have hp:2 ^ k<2 ^ 8:=Nat.pow_lt_pow_right (by omega) hk
 refine⟨or_lt (k:=8) h.1 hp,fun j hj=> ?_⟩
 rw[Nat.testBit_or,Bool.or_eq_true,h.2 j hj,List.mem_append,List.mem_singleton,Nat.testBit_two_pow,decide_eq_true_eq]
 exact or_congr Iff.rfl (by omega)
def ExtQ (base q0 q1 q2 q3 q4:Nat) (st:Int) (L:List (List Int)) (v:Value) (ps:List (List Int × Value)) (w:World) (e:Ending) (w':World):Prop:=
 e= .returned (.tuple #[])∧ ∃v' ps',RbS w' base q0 q1 q2 q3 q4 st v' ps'∧ps'.map Prod.fst=ps.map Prod.fst++L∧Mv (TQ q1 v) (TQ q1 v') w w'
structure ExtA (wA:World) (base q0 q1 q2 q3 q4:Nat) (fr tn:Int) (u1 u2:Value) (n:Net):Prop where
 net:Rdt wA (flt 4 fibE n.fs) u2
 u1s:∃a m c,u1= .slice a m c
 fl:n.fs.length≤14
 nl:n.ns.length≤8
 ends:∀i,i<n.fs.length→0≤(fbA n i).a∧(fbA n i).a<n.ns.length∧0≤(fbA n i).b∧(fbA n i).b<n.ns.length
 ne:q0≠q1∧q2≠q1∧q3≠q1∧q4≠q1
 lo:wA.heap.size≤base∧wA.heap.size≤q1
structure ExtP (wA w:World) (base q0 q1 q2 q3 q4:Nat) (fr tn:Int) (u1 u2:Value) (n:Net) (f:Nat) (t:Int) (seen:List Int) (M:Nat) (vl:Value) (fb:List Int) (v:Value) (ps:List (List Int × Value)):Prop where
 env:RbE w q0 q1 q2 q3 q4 fr tn u1 u2
 sta:RbS w base q0 q1 q2 q3 q4 fr v ps
 bel:Below wA.heap.size wA w
 own:Own w 0 vl fb
 bas:base≤w.heap.size
 apt:∀g,vl.ownBlock=some g→ ¬TQ q1 v g
 fbl:fb.length+1=seen.length
 fue:f+seen.length=n.ns.length+2
 nod:seen.Nodup
 rng:∀s∈seen,0≤s∧s<n.ns.length
 msk:SeenM M seen
 tin:0≤t∧t<n.ns.length
 end_:t=tn→0<fb.length
 cap:ps.length+(extR n tn f t seen fb).length≤1000000000000
theorem ExtA.th {wA:World} {base q0 q1 q2 q3 q4:Nat} {fr tn:Int} {u1 u2:Value} {n:Net} (h:ExtA wA base q0 q1 q2 q3 q4 fr tn u1 u2 n) {k:Nat} (hk:k<n.fs.length) (t:Int): -1≤othE (fbA n k) t∧othE (fbA n k) t<n.ns.length:=by
 have:=h.ends k hk
 unfold othE
 split
 · omega
 · split <;> omega
theorem extEnd_any {wA w:World} {base q0 q1 q2 q3 q4:Nat} {fr tn:Int} {u1 u2:Value} {n:Net} {f:Nat} {t:Int} {seen:List Int} {M:Nat} {vl:Value} {fb:List Int} {v:Value} {ps:List (List Int × Value)} (hA:ExtA wA base q0 q1 q2 q3 q4 fr tn u1 u2 n) (h:ExtP wA w base q0 q1 q2 q3 q4 fr tn u1 u2 n (f+1) t seen M vl fb v ps) (ht:t=tn):
 Calls Tryz.prog 238 #[.int .i64 t,.int .i64 M,vl,ptr q0,ptr q1,ptr q2,ptr q3,ptr q4] w (ExtQ base q0 q1 q2 q3 q4 fr [fb] v ps w):=by
 obtain⟨NP,hNP⟩:∃NP,NP=ExtQ base q0 q1 q2 q3 q4 fr [fb] v ps w:=⟨_,rfl⟩
 rw[←hNP]
 have HCL:=Lib.hid (fun w' (hb:Below w.heap.size w w')=>cloneI_any vl fb w' (h.own.rd.belowAll hb) (h.end_ ht) (by have:=h.fbl;have:=h.fue;have:=hA.nl;omega))
 have HPU:=Lib.hid (fun(W2 W3:World) (v' vc:Value) (lo:Nat) hb hr hg hl hc hlo=>RbS.push (W2:=W2) (W3:=W3) (v':=v') (vc:=vc) (lo:=lo) (fb:=fb) h.sta ⟨World.block_lt_of_cell? _ _ h.env.c0,World.block_lt_of_cell? _ _ h.env.c2,World.block_lt_of_cell? _ _ h.env.c3,World.block_lt_of_cell? _ _ h.env.c4⟩ hb hr hg hl hc hlo)
 have e0:=h.env.c0
 have HSTA:=Lib.hid h.sta
 have HENV:=Lib.hid h.env
 have HRL:=Lib.hid (fun g e=>(h.sta.row.lt g e))
 have hps:ps.length<1000000000000:=by
  have:=h.cap
  rw[extR,if_pos ht] at this
  simp at this;omega
 have hq1:q1<w.heap.size:=(Array.getElem?_eq_some_iff.1 h.sta.box).1
 have htb:(t==tn)=true:=by simp[ht]
 have htd:decide (t=tn)=true:=by simp[ht]
 obtain⟨a5,m5,c5,rfl⟩:=own_slice h.own
 obtain⟨av,cv,rfl⟩:=rowf h.sta.row
 have HSS:=Lib.hid (fun(w':World) (hb:Below w.heap.size w w')=>show w'.cell? ⟨q1,0,none⟩=some (.slice av ps.length cv)∧w'.cell? ⟨q2,0,none⟩=some (.int .i64 fr) from
  ⟨(hb.cell (p:=⟨q1,0,none⟩) hq1).trans (blkc HSTA.out.box rfl),(hb.cell (p:=⟨q2,0,none⟩) (World.block_lt_of_cell? _ _ HENV.out.c2)).trans HENV.out.c2⟩)
 have HRW:=Lib.hid (fun(w':World) (hb:Below w.heap.size w w')=>owr_below HSTA.out.row hb)
 have HBS:=Lib.hid h.bas
 generalize hm:ps.length=m at *
 have HM:=Lib.hid hm
 have HNP:=Lib.hid hNP
 clear h ht hm hNP
 go_enter Tryz.func238,Tryz.ntmps238
 go_upto_region 1 with fail
 refine wp_region_L [0,1,2,3,4,5,6] (S:=fun w'=>w'.cell? ⟨q1,0,none⟩=some (.slice av m cv)∧w'.cell? ⟨q2,0,none⟩=some (.int .i64 fr)) (by kernel_rfl) (HSS.out _ (Below.refl _ _).drew) (fun hH=> ?_)
 refine hlE 0 rfl hH ⟨_,by intro w hSw;(try dsimp only at hSw);go_simp;try with_reducible rfl,?_⟩
 try simp only[Act.put,hlA,hlB,hlC]
 refine hlE 1 rfl hH ⟨_,by intro w hSw;(try dsimp only at hSw);go_simp;try with_reducible rfl,?_⟩
 try simp only[Act.put,hlA,hlB,hlC]
 refine hlE 2 rfl hH ⟨_,by intro w hSw;(try dsimp only at hSw);go_simp;try with_reducible rfl,?_⟩
 try simp only[Act.put,hlA,hlB,hlC]
 refine hlReady (rs:=[3]) (by kernel_rfl) (by simp) ?_
 refine AllReadyL.cons rfl (fun KK hKK=> ?_) AllReadyL.nil
 go_simp
 go_at_call 239
 refine(HCL.out _ (Below.refl _ _).drew).mono ?_
 rintro e w20 ⟨v20,rfl,o20,b20⟩
 have B20:Below w.heap.size w w20:=((Below.refl w.heap.size w).drew).trans (b20.mono (by simp))
 obtain⟨a20,n20,c20,rfl⟩:=own_slice o20
 refine hKK.out _ _ (HSS.out _ B20) (fun hH=> ?_)
 clear hKK KK
 try simp only[Act.put,hlA,hlB,hlC]
 refine hlE 4 rfl hH ⟨_,by intro w hSw;(try dsimp only at hSw);go_simp;try with_reducible rfl,?_⟩
 try simp only[Act.put,hlA,hlB,hlC]
 refine hlReady (rs:=[5]) (by kernel_rfl) (by simp) ?_
 refine AllReadyL.cons rfl (fun KK hKK=> ?_) AllReadyL.nil
 go_simp
 have B22:=B20.alloc B20.size (.cells #[.int .i64 fr,.slice a20 n20 c20] 82)
 have o22:=o20.belowAll ((Below.refl w20.heap.size w20).alloc (Nat.le_refl _) (.cells #[.int .i64 fr,.slice a20 n20 c20] 82))
 refine hKK.out _ _ (HSS.out _ B22) (fun hH=> ?_)
 clear hKK KK
 try simp only[Act.put,hlA,hlB,hlC]
 refine hlStep 6 rfl (by kernel_rfl) (by kernel_rfl) (fun KK hKK=> ?_)
 refine step_of_list rfl ?_
 refine wpList_catG rfl (.tmp 17) (.tmp 22) 176 82 rfl Tryz.underlying176 (.agg #[.int .i64 0,.slice none 0 0]) 2 32 Tryz.infoRou rfl (by decide) base (.slice av m cv) m (rcs fr ps) (by rfl) (HRW.out _ B22) (some ⟨w20.heap.size,0,none⟩) 1 1 [.int .i64 fr,.slice a20 n20 c20] (by rfl) rfl (fun e=>by cases e) (new_cells (us:=[.int .i64 fr,.slice a20 n20 c20])) (fun u hu=>by simp at hu;rcases hu with rfl | rfl <;> rfl) (by unfold maxLen;omega) (by omega) (Nat.le_trans HBS.out B22.size) ?_
 intro v23 w23 o23 g23 l23
 have P23:=Lib.hid (HPU.out _ _ v23 (.slice a20 n20 c20) w.heap.size B22 o23 g23 l23 (o22.mono (by simp)) (Nat.le_refl _))
 have x23:w23.heap[q1]?= some (.cells #[.slice av m cv] 176 (0,0)):=by rw[g23.block q1 (Nat.lt_of_lt_of_le hq1 B22.size) (fun e=>(HSTA.out.vq q1 e.symm).2.1 rfl),B22.block q1 hq1];exact HSTA.out.box
 unfold wpList
 refine⟨rfl,?_⟩
 refine hKK.out _ _ ?_
 clear hKK KK
 try simp only[Act.put,hlA,hlB,hlC]
 obtain⟨a23,c23,rfl⟩:=rowf o23
 have y23:=blkc x23 (j:=0) rfl
 have f23:w23.frozen? ⟨q1,0,none⟩=false:=by simp only[World.frozen?,x23];rfl
 refine hlStep 7 rfl (by kernel_rfl) (by kernel_rfl) (fun KK hKK=> ?_)
 go_simp
 refine hKK.out _ _ ?_
 clear hKK KK
 try simp only[Act.put,hlA,hlB,hlC]
 refine hlDone (by kernel_rfl) ?_ _
 rotate_left 1
 clear o23 g23 l23 x23 y23 f23 o22 B22 o20 b20 B20
 go_wp2_with fail
 rw[HNP.out]
 exact bodyPost_ret (v:= .tuple #[]) (by simp[results,Tryz.results238,go_sem]) rfl ⟨rfl,_,ps++[(fb,_)],P23.out.1,by simp,P23.out.2⟩
def extI (n:Net) (tn:Int) (f:Nat) (t:Int) (seen fb:List Int) (i:Nat):List (List Int):=if 0≤othE (fbA n i) t∧othE (fbA n i) t ∉ seen then extR n tn f (othE (fbA n i) t) (seen++[othE (fbA n i) t]) (fb++[(i:Int)]) else[]
theorem extR_go {n:Net} {tn t:Int} (h:¬t=tn) (f:Nat) (seen fb:List Int):extR n tn (f+1) t seen fb=(List.range n.fs.length).flatMap (extI n tn f t seen fb):=by rw[extR,if_neg h];rfl
theorem range_step {α:Type} (g:Nat→List α) (k:Nat):(List.range (k+1)).flatMap g=(List.range k).flatMap g++g k:=by rw[List.range_succ,List.flatMap_append];simp
theorem range_len_le {α:Type} (g:Nat→List α) {k m:Nat} (h:k≤m):((List.range k).flatMap g).length≤((List.range m).flatMap g).length:=by
 induction m with
 | zero=>obtain rfl:k=0:=by omega
         exact Nat.le_refl _
 | succ m ih=>
   by_cases e:k=m+1
   · subst e;exact Nat.le_refl _
   · have:=ih (by omega)
     rw[range_step,List.length_append];omega
theorem extGo_any {wA:World} {base q0 q1 q2 q3 q4:Nat} {fr tn:Int} {u1 u2:Value} {n:Net} (hA:ExtA wA base q0 q1 q2 q3 q4 fr tn u1 u2 n) {f:Nat}
 (IH:∀(t:Int) (seen:List Int) (M:Nat) (vl:Value) (fb:List Int) (v:Value) (ps:List (List Int × Value)) (w:World),ExtP wA w base q0 q1 q2 q3 q4 fr tn u1 u2 n f t seen M vl fb v ps→Calls Tryz.prog 238 #[.int .i64 t,.int .i64 M,vl,ptr q0,ptr q1,ptr q2,ptr q3,ptr q4] w (ExtQ base q0 q1 q2 q3 q4 fr (extR n tn f t seen fb) v ps w))
 {t:Int} {seen:List Int} {M:Nat} {vl:Value} {fb:List Int} {v:Value} {ps:List (List Int × Value)} {w:World} (h:ExtP wA w base q0 q1 q2 q3 q4 fr tn u1 u2 n (f+1) t seen M vl fb v ps) (ht:¬t=tn):
 Calls Tryz.prog 238 #[.int .i64 t,.int .i64 M,vl,ptr q0,ptr q1,ptr q2,ptr q3,ptr q4] w (ExtQ base q0 q1 q2 q3 q4 fr (extR n tn (f+1) t seen fb) v ps w):=by
 obtain⟨NP,hNP⟩:∃NP,NP=ExtQ base q0 q1 q2 q3 q4 fr (extR n tn (f+1) t seen fb) v ps w:=⟨_,rfl⟩
 rw[←hNP]
 rw[extR_go ht] at hNP
 have hcap:=h.cap
 rw[extR_go ht] at hcap
 obtain⟨aN,mN,cN,hu1⟩:=hA.u1s
 obtain⟨a2,m2,c2,hu2,HN2,hc2,hm2,ha2⟩:=flt_opn (m:=4) (enc:=fibE) (fun _=>rfl) (by omega) nilB hA.net
 obtain⟨a5,m5,c5,rfl⟩:=own_slice h.own
 subst hu1
 subst hu2
 have HA2:=Lib.hid ha2
 have HP:=Lib.hid h
 have HH:=Lib.hid hA
 have HIH:=Lib.hid IH
 have HNP:=Lib.hid hNP
 have e0:=h.env.c0
 have q5:=h.env.c5
 have HCAP:=Lib.hid hcap
 have HE:=Lib.hid (fun k (hk:k<m2)=>hA.th (by rw[HN2.out];exact hk) t)
 have HST:=Lib.hid (show∃ps',RbS w base q0 q1 q2 q3 q4 fr v ps'∧ps'.map Prod.fst=ps.map Prod.fst++(List.range 0).flatMap (extI n tn f t seen fb)∧Mv (TQ q1 v) (TQ q1 v) w w from⟨ps,h.sta,by simp,Mv.refl _ _⟩)
 have hm14:m2≤14:=by rw[←HN2.out];exact hA.fl
 have htb:(t==tn)=false:=by simpa using ht
 have htd:decide (t=tn)=false:=by simpa using ht
 rw[HN2.out] at HNP HCAP
 have HNN:=Lib.hid (show n.ns.length≤8 from hA.nl)
 have HML:=Lib.hid (show M<16777216 from by have:=h.msk.1;omega)
 clear h hA IH hNP hcap ha2 ht
 go_enter Tryz.func238,Tryz.ntmps238
 go_wp2
 go_loopw [11,12,13,27] (fun _ _ _ c wr=>∃(k:Nat) (v':Value),k≤m2∧c= .int .i64 k∧Hid (∃ps',RbS wr base q0 q1 q2 q3 q4 fr v' ps'∧ps'.map Prod.fst=ps.map Prod.fst++(List.range k).flatMap (extI n tn f t seen fb)∧Mv (TQ q1 v) (TQ q1 v') w wr)) (fun _ _ _ c _=>m2-(intOf c).toNat)
 case atStart=>exact⟨0,v,Nat.zero_le _,rfl,HST⟩
 case round=>
  obtain⟨k,v',hk,rfl,HD⟩:=hrel
  by_cases hlt:k<m2
  · have hltI:(k:Int)<(m2:Int):=by omega
    obtain⟨b2,off2,rfl,hbs,hcs⟩:=HA2.out (by omega)
    obtain⟨ps',hS,hM,hV⟩:=HD.out
    have hBW:Below wA.heap.size wA wr:=hV.below HP.out.bel HP.out.bel.size (fun g hg=>by
     rcases hg with rfl | hg
     · exact HH.out.lo.2
     · have:=(HP.out.sta.row.lt g hg).1
       have:=HH.out.lo.1
       omega)
    have e1:wr.cell? ⟨b2,off2+k*4,none⟩=_:=(hBW.cell (p:=⟨b2,off2+k*4+0,none⟩) hbs).trans (hcs k hlt 0 _ rfl)
    have e2:=(hBW.cell (p:=⟨b2,off2+k*4+1,none⟩) hbs).trans (hcs k hlt 1 _ rfl)
    have e3:=(hBW.cell (p:=⟨b2,off2+k*4+2,none⟩) hbs).trans (hcs k hlt 2 _ rfl)
    have e4:=(hBW.cell (p:=⟨b2,off2+k*4+3,none⟩) hbs).trans (hcs k hlt 3 _ rfl)
    have HX:=Lib.hid (HE.out k hlt)
    have HOE:=Lib.hid (fun w'=>otherEnd_any (fbA n k) t w')
    have HEI:=Lib.hid (show extI n tn f t seen fb k=if 0≤othE (fbA n k) t∧othE (fbA n k) t ∉ seen then extR n tn f (othE (fbA n k) t) (seen++[othE (fbA n k) t]) (fb++[(k:Int)]) else[] from rfl)
    have HS:=Lib.hid hS
    have HMP:=Lib.hid hM
    have HMV:=Lib.hid hV
    have HBW:=Lib.hid hBW
    clear hcs hS hM hV hBW
    unfold fibV fbA at HOE
    unfold fbA at HX HEI
    generalize n.fs[k]?.getD nilB=ff at *
    generalize othE ff t=o at *
    generalize hfa:ff.a=fa at *
    generalize hfl:ff.b=fbb at *
    generalize hfc:ff.l=fl at *
    generalize hfr:ff.r=frr at *
    clear hfa hfl hfc hfr
    go_wp2_with fail
    refine(HOE.out _).mono ?_
    rintro e w2 ⟨rfl,b2'⟩
    have HB:=Lib.hid (((Below.refl wr.heap.size wr).alloc (Nat.le_refl _) (.cells #[.int .i64 fa,.int .i64 fbb,.int .i64 fl,.int .i64 frr] 146)).trans (b2'.mono (by simp)))
    clear b2' e1 e2 e3 e4 hbs
    have HRG:=Lib.hid (range_step (extI n tn f t seen fb) k)
    by_cases ho:0≤o
    · obtain⟨c,rfl⟩:=Int.eq_ofNat_of_zero_le ho
      have hc8:c<8:=by have:=HX.out;have:=HNN.out;omega
      have HMK:=Lib.hid (HP.out.msk.2 c hc8)
      have hod:decide ((c:Int)≥0)=true:=decide_eq_true (by omega)
      by_cases hmem:(c:Int)∈seen
      · have hbit:=bit_on HML.out (HMK.out.2 hmem)
        have HEX:=Lib.hid (HEI.out.trans (if_neg (fun hh=>hh.2 hmem)))
        clear hmem ho
        go_wp2
        go_roundw
        case rel=>exact⟨k+1,v',by omega,by go_num,ps',HS.out.below HB.out,by rw[HRG.out,HEX.out,List.append_nil];exact HMP.out,HMV.out.trans (Mv.of_below HB.out)⟩
        case measure=>simp[intOf];omega
      · have hbit:=bit_off HML.out (by cases hq:M.testBit c with | false=>rfl | true=>exact absurd (HMK.out.1 hq) hmem)
        have HEX:=Lib.hid (HEI.out.trans (if_pos ⟨ho,hmem⟩))
        have HMEM:=Lib.hid hmem
        obtain⟨pw,hpw⟩:∃pw,pw=2 ^ c:=⟨_,rfl⟩
        have hsh:=shl_one (k:=c) (by omega)
        rw[←hpw] at hsh
        have hpl:pw<16777216:=by rw[hpw];exact pow_lt24 (by omega)
        have HSH2:=Lib.hid (show IntKind.i64.wrap ((2:Int) ^ c)=(pw:Int) from by
         rw[show((2:Int) ^ c)=(pw:Int) by rw[hpw];simp,IntWalk.i64_in _ (by omega)])
        have hor:=bits_or HML.out hpl
        have HPW:=Lib.hid hpw
        obtain⟨M2,hM2⟩:∃M2,M2=M ||| pw:=⟨_,rfl⟩
        rw[←hM2] at hor
        have HM2:=Lib.hid hM2
        have HFB:=Lib.hid (show fb.length=m5∧m5≤c5∧m5≤9∧(a5=none→m5=0∧m5=0)∧ ∀b,a5=some b→ ∀j u,(ints fb)[j]?= some u→w.cell? (b.add j)=some u from by
         have hrd:=HP.out.own.rd
         obtain⟨a',cap',hv,g1,g2,g3⟩:=full_ok hrd
         simp only[Value.slice.injEq] at hv
         obtain⟨rfl,rfl,rfl⟩:=hv
         have h1:=HP.out.fbl
         have h2:=HP.out.fue
         have h3:=HNN.out
         exact⟨rfl,g1,by omega,fun e=>⟨(g2 e).1,(g2 e).1⟩,g3⟩)
        have HCC:=Lib.hid (fun(w':World) (hb:Below w2.heap.size w2 w')=>show∀b,a5=some b→ ∀j u,(ints fb)[j]?= some u→w'.cell? (b.add j)=some u from by
         have hrd:=((HP.out.own.rd.keptM HMV.out HP.out.apt).belowAll HB.out).belowAll hb
         exact hrd.cellsOf)
        have hm59:m5≤9:=HFB.out.2.2.1
        have hm5c:m5≤c5:=HFB.out.2.1
        have hm5I:(m5:Int)≤(c5:Int):=by omega
        have HEN:=Lib.hid ((HP.out.env.mv HMV.out HP.out.sta.vq HH.out.ne).below HB.out)
        have hq4:=World.block_lt_of_cell? _ _ HEN.out.c4
        have HS4:=Lib.hid (fun(w':World) (hb:Below w2.heap.size w2 w')=>show w'.cell? ⟨q4,0,none⟩=_ from(hb.cell (p:=⟨q4,0,none⟩) hq4).trans HEN.out.c4)
        clear hpw hM2 hmem ho
        obtain⟨i0,hi,hz0,hz1,hz2⟩:=info_parts Tryz.infoInt
        go_wp2_with fail
        refine wp_region_L [0,1,2,3,4,5,6,7,8,9,10,11,12,13,14,15] (S:=fun w'=>w'.cell? ⟨q4,0,none⟩=some (.func (.func 238) #[] #[ptr q0,ptr q1,ptr q2,ptr q3,ptr q4])) (by kernel_rfl) (HS4.out _ (Below.refl _ _).drew) (fun hH=> ?_)
        refine hlE 0 rfl hH ⟨_,by intro w hSw;(try dsimp only at hSw);go_simp;try with_reducible rfl,?_⟩
        try simp only[Act.put,hlA,hlB,hlC]
        refine hlE 1 rfl hH ⟨_,by intro w hSw;(try dsimp only at hSw);go_simp;try with_reducible rfl,?_⟩
        try simp only[Act.put,hlA,hlB,hlC]
        refine hlE 2 rfl hH ⟨_,by intro w hSw;(try dsimp only at hSw);go_simp;try with_reducible rfl,?_⟩
        try simp only[Act.put,hlA,hlB,hlC]
        refine hlE 3 rfl hH ⟨_,by intro w hSw;(try dsimp only at hSw);go_simp;try with_reducible rfl,?_⟩
        try simp only[Act.put,hlA,hlB,hlC]
        refine hlE 4 rfl hH ⟨_,by intro w hSw;(try dsimp only at hSw);go_simp;try with_reducible rfl,?_⟩
        try simp only[Act.put,hlA,hlB,hlC]
        refine hlE 5 rfl hH ⟨_,by intro w hSw;(try dsimp only at hSw);go_simp;try with_reducible rfl,?_⟩
        try simp only[Act.put,hlA,hlB,hlC]
        refine hlE 6 rfl hH ⟨_,by intro w hSw;(try dsimp only at hSw);go_simp;try with_reducible rfl,?_⟩
        try simp only[Act.put,hlA,hlB,hlC]
        refine hlE 7 rfl hH ⟨_,by intro w hSw;(try dsimp only at hSw);go_simp;try with_reducible rfl,?_⟩
        try simp only[Act.put,hlA,hlB,hlC]
        refine hlE 8 rfl hH ⟨_,by intro w hSw;(try dsimp only at hSw);go_simp;try with_reducible rfl,?_⟩
        try simp only[Act.put,hlA,hlB,hlC]
        refine hlE 9 rfl hH ⟨_,by intro w hSw;(try dsimp only at hSw);go_simp;try with_reducible rfl,?_⟩
        try simp only[Act.put,hlA,hlB,hlC]
        refine hlE 10 rfl hH ⟨_,by intro w hSw;(try dsimp only at hSw);go_simp;try with_reducible rfl,?_⟩
        try simp only[Act.put,hlA,hlB,hlC]
        refine hlE 11 rfl hH ⟨_,by intro w hSw;(try dsimp only at hSw);go_simp;try with_reducible rfl,?_⟩
        try simp only[Act.put,hlA,hlB,hlC]
        refine hlE 12 rfl hH ⟨_,by intro w hSw;(try dsimp only at hSw);go_simp;try with_reducible rfl,?_⟩
        try simp only[Act.put,hlA,hlB,hlC]
        refine hlReady (rs:=[13]) (by kernel_rfl) (by simp) ?_
        refine AllReadyL.cons rfl (fun KK hKK=> ?_) AllReadyL.nil
        go_simp
        have B57:Below w2.heap.size w2 (w2.drew.alloc (.cells #[.int .i64 (k:Int)] 3)):=((Below.refl w2.heap.size w2).drew).alloc (by simp) _
        refine hKK.out _ _ (HS4.out _ B57) (fun hH=> ?_)
        clear hKK KK
        try simp only[Act.put,hlA,hlB,hlC]
        refine hlReady (rs:=[14]) (by kernel_rfl) (by simp) ?_
        refine AllReadyL.cons rfl (fun KK hKK=> ?_) AllReadyL.nil
        refine step_of_list rfl ?_
        refine wpList_append_grows _ rfl (.tmp 55) (.tmp 57) 58 rfl 3 i0 (.int .i64 0) 1 8 Tryz.underlying58 hi hz0 hz1 hz2 rfl (by decide) a5 m5 m5 (ints fb) rfl HFB.out.2.2.2.1 (by rw[←HFB.out.1];simp[ints]) (HCC.out _ B57) ⟨w2.drew.heap.size,0,none⟩ 1 1 [.int .i64 (k:Int)] rfl rfl (new_cells (us:=[.int .i64 (k:Int)]) _ rfl) (by simp[Value.oneCell']) (by omega) (by unfold maxLen;omega) (by omega) ?_
        intro v58 w58 o58 g58
        have B58:Below w2.heap.size w2 w58:=Below.grown B57 g58 B57.size (fun q hq=>by cases hq)
        unfold wpList
        refine⟨rfl,?_⟩
        refine hKK.out _ _ (HS4.out _ B58) (fun hH=> ?_)
        clear hKK KK
        try simp only[Act.put,hlA,hlB,hlC]
        refine hlStep 15 rfl (by kernel_rfl) (by kernel_rfl) (fun KK hKK=> ?_)
        go_simp
        have o59:w58.ownsRow (w2.drew.alloc (.cells #[.int .i64 (k:Int)] 3)).heap.size 3 1 v58 (fb++[(k:Int)]).length (ints (fb++[(k:Int)])):=by
         rw[show(fb++[(k:Int)]).length=m5+1 by rw[List.length_append,HFB.out.1];rfl,show ints (fb++[(k:Int)])=ints fb++[.int .i64 (k:Int)] by simp[ints]]
         exact o58
        have hz2:=HB.out.size
        have HPC:=Lib.hid (show ExtP wA w58 base q0 q1 q2 q3 q4 fr tn (.slice aN mN cN) (.slice (some ⟨b2,off2,none⟩) m2 c2) n f (c:Int) (seen++[(c:Int)]) M2 v58 (fb++[(k:Int)]) v' ps' from
         {env:=HEN.out.below B58
          sta:=(HS.out.below HB.out).below B58
          bel:=(HBW.out.trans (HB.out.mono HBW.out.size)).trans (B58.mono (Nat.le_trans HBW.out.size hz2))
          own:=(own_of_row o59).mono (Nat.zero_le _)
          bas:=Nat.le_trans HP.out.bas (Nat.le_trans HMV.out.size (Nat.le_trans hz2 B58.size))
          apt:=fun g hg hT=>by
           have h1:=(o59.lt g hg).1
           have h2:w2.heap.size≤g:=by simp at h1;omega
           rcases hT with hT | hT
           · have:=(Array.getElem?_eq_some_iff.1 HS.out.box).1;omega
           · have:=(HS.out.row.lt g hT).2;omega
          fbl:=by have:=HP.out.fbl;rw[List.length_append,List.length_append];simp only[List.length_singleton];omega
          fue:=by have:=HP.out.fue;rw[List.length_append];simp only[List.length_singleton];omega
          nod:=List.nodup_append.2 ⟨HP.out.nod,by simp,fun x hx y hy e=>by rw[List.mem_singleton.1 hy] at e;exact HMEM.out (e▸hx)⟩
          rng:=fun x hx=>by
           rcases List.mem_append.1 hx with hx | hx
           · exact HP.out.rng x hx
           · rw[List.mem_singleton.1 hx];have:=HX.out;omega
          msk:=by rw[HM2.out,HPW.out];exact HP.out.msk.next hc8
          tin:=by have:=HX.out;omega
          end_:=fun _=>by rw[List.length_append];simp
          cap:=by
           have h1:=HCAP.out
           have h2:=congrArg List.length HMP.out
           have h3:=range_len_le (extI n tn f t seen fb) (show k+1≤m2 from hlt)
           rw[HRG.out,HEX.out,List.length_append] at h3
           rw[List.length_append,List.length_map,List.length_map] at h2
           omega})
        rw[HSH2.out,hor]
        refine(HIH.out _ _ _ _ _ _ _ _ HPC.out).mono ?_
        rintro e w9 ⟨rfl,v9,ps9,s9,m9,mv9⟩
        refine hKK.out _ _ ?_
        clear hKK KK
        try simp only[Act.put,hlA,hlB,hlC]
        refine hlDone (by kernel_rfl) ?_ _
        rotate_left 1
        have H9:=Lib.hid (show∃ps',RbS w9 base q0 q1 q2 q3 q4 fr v9 ps'∧ps'.map Prod.fst=ps.map Prod.fst++(List.range (k+1)).flatMap (extI n tn f t seen fb)∧Mv (TQ q1 v) (TQ q1 v9) w w9 from
         ⟨ps9,s9,by rw[m9,HMP.out,HRG.out,HEX.out,List.append_assoc],HMV.out.trans ((Mv.of_below HB.out).trans ((Mv.of_below B58).trans mv9))⟩)
        clear s9 m9 mv9 o58 o59 g58 B58 B57 HPC
        go_wp2_with fail
        go_roundw
        case rel=>exact⟨k+1,v9,by omega,by go_num,H9⟩
        case measure=>simp[intOf];omega
    · have hod:decide (o≥0)=false:=decide_eq_false ho
      have HEX:=Lib.hid (HEI.out.trans (if_neg (fun hh=>ho hh.1)))
      clear ho
      go_wp2
      go_roundw
      case rel=>exact⟨k+1,v',by omega,by go_num,ps',HS.out.below HB.out,by rw[HRG.out,HEX.out,List.append_nil];exact HMP.out,HMV.out.trans (Mv.of_below HB.out)⟩
      case measure=>simp[intOf];omega
  · obtain rfl:k=m2:=by omega
    go_wp2
    rw[HNP.out]
    obtain⟨ps',hS,hM,hV⟩:=HD.out
    go_end0
    exact⟨rfl,v',ps',hS,hM,hV⟩
theorem ext_any {wA:World} {base q0 q1 q2 q3 q4:Nat} {fr tn:Int} {u1 u2:Value} {n:Net} (hA:ExtA wA base q0 q1 q2 q3 q4 fr tn u1 u2 n):∀(f:Nat) (t:Int) (seen:List Int) (M:Nat) (vl:Value) (fb:List Int) (v:Value) (ps:List (List Int × Value)) (w:World),ExtP wA w base q0 q1 q2 q3 q4 fr tn u1 u2 n f t seen M vl fb v ps→Calls Tryz.prog 238 #[.int .i64 t,.int .i64 M,vl,ptr q0,ptr q1,ptr q2,ptr q3,ptr q4] w (ExtQ base q0 q1 q2 q3 q4 fr (extR n tn f t seen fb) v ps w)
 | 0,t,seen,M,vl,fb,v,ps,w,h=>by
   have h1:=h.fue
   have h2:=nodup_len n.ns.length h.nod h.rng
   omega
 | f+1,t,seen,M,vl,fb,v,ps,w,h=>by
   by_cases ht:t=tn
   · rw[show extR n tn (f+1) t seen fb=[fb] by rw[extR,if_pos ht]]
     exact extEnd_any hA h ht
   · exact extGo_any hA (fun t seen M vl fb v ps w h=>ext_any hA f t seen M vl fb v ps w h) h ht
end Go.Proofs.YtofcicomhnkocaaGreat
