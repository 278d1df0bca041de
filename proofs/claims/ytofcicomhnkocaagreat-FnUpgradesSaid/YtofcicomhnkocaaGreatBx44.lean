import Derived.Test.YtofcicomhnkocaaGreatBx43
set_option linter.unusedVariables false
namespace Go.Proofs.YtofcicomhnkocaaGreat
set_option maxHeartbeats 12800000
open Go.RowKit Go.Sort
set_option maxRecDepth 100000
theorem specUpg_any (l:Int) (v vf vg:Value) (n:Net) (fs:List Fmt) (gs:List Gro) (w:World) (h:NetR w v n) (hf:Rdt w (flt 2 fmE fs) vf) (hg:Rdt w (flt 6 groE gs) vg):
 Calls Tryz.prog 41 #[v,vf,vg,.int .i64 l] w (UpP n fs gs l w):=by
 obtain⟨NP,hNP⟩:∃NP,NP=UpP n fs gs l w:=⟨_,rfl⟩
 rw[←hNP]
 have HNP:=ξh hNP
 have HP:=ξh (fun w' (hb:Below w.heap.size w w')=>ξbN v vf vg n fs gs w' (h.behind hb) (hf.behind hb) (hg.behind hb))
 have hnet:=h
 obtain⟨u1,u2,rfl,r1,r2,hsm⟩:=h
 obtain⟨⟨a1,m1,c1,rfl⟩,-⟩:=ξF hnet
 obtain⟨a2,m2,c2,rfl,HN2,hc2,hm2,-⟩:=ξC (m:=4) (enc:=fibE) (fun _=>rfl) (by omega) nilB r2
 obtain⟨af,mf,cf,rfl,-,-,-,-⟩:=ξC (m:=2) (enc:=fmE) (fun _=>rfl) (by omega) ξJ hf
 obtain⟨ag,mg,cg,rfl,-,-,-,-⟩:=ξC (m:=6) (enc:=groE) (fun _=>rfl) (by omega) nilG hg
 have HSM:=ξh (show NetSm n from hsm)
 have HB1:=ξh ((ξb w.heap.size w).alloc (ξr _) (.cells #[.slice a1 m1 c1,.slice a2 m2 c2] 35))
 have HX1:=ξh (ξn w (.cells #[.slice a1 m1 c1,.slice a2 m2 c2] 35))
 clear hnet hf hg hNP r1 r2 hsm
 have HOa:=ξh (ξaG (w.alloc (.cells #[.slice a1 m1 c1,.slice a2 m2 c2] 35)) 3)
 have HBa:=ξh (HB1.alloc HB1.size (.cells #[] 3))
 have HXa:=ξh (ξA HX1.out ((ξb _ _).alloc (ξr _) (.cells #[] 3)))
 go_enter Tryz.func41,Tryz.ntmps41
 go_wp2_with fail
 obtain⟨bx,hbx⟩:∃bx,bx=w.heap.size:=⟨_,rfl⟩
 have hz1:(w.alloc (.cells #[.slice a1 m1 c1,.slice a2 m2 c2] 35)).heap.size=w.heap.size+1:=by simp
 rw[hz1] at HOa
 have hz2:((w.alloc (.cells #[.slice a1 m1 c1,.slice a2 m2 c2] 35)).alloc (.cells #[] 3)).heap.size=w.heap.size+1+1:=by simp
 rw[←hbx] at HX1 HXa HOa hz2 ⊢
 clear hz1
 generalize (w.alloc (.cells #[.slice a1 m1 c1,.slice a2 m2 c2] 35)).alloc (.cells #[] 3)=w1 at *
 refine(HP.out w1 HBa.out).mono ?_
 rintro e w2 ⟨b2,aw,ms,cs,a,m,c,rfl,hpl⟩
 have HB2:=ξh (HBa.trans (b2.mono HBa.size))
 have HX2:=ξh (ξA HXa.out b2)
 have HO2:=ξh (HOa.below b2 (fun k hk=>(HOa.lt k hk).2))
 have HZ2:=ξh (hz2▸b2.size:bx+1+1≤w2.heap.size)
 have HZ1:=ξh hz2
 have HBX:=ξh hbx
 have HB3:=ξh ((ξb w2.heap.size w2).alloc (ξr _) (.cells #[.slice aw ms cs,.slice a m c] 95))
 have HX3:=ξh (ξn w2 (.cells #[.slice aw ms cs,.slice a m c] 95))
 have HB4:=ξh (HB2.trans (HB3.mono HB2.size))
 clear hz2 hbx
 cases hO:ξR n fs gs with
 | none=>
   obtain⟨-,k2⟩:=ξap hO
   have HE:=ξh (⟨by unfold upK;rw[k2];rfl,by unfold upL upK;rw[k2];rfl⟩:upK n fs gs l=false∧upL n fs gs l=[])
   have HO3:=ξh ((HO2.below HB3.out (fun k hk=>(HO2.lt k hk).2)).mono (show w.heap.size≤bx+1 by have:=HBX.out;omega))
   rw[k2]
   clear b2 hpl hO k2
   go_wp2
   rw[HNP.out]
   exact⟨_,by rw[HE.1];rfl,by rw[HE.2];exact HO3.ofr,HB4.out⟩
 | some x=>
   obtain⟨ps,r⟩:=x
   have k3:=(ξaf hO).2.2
   have HO3:=ξh (HO2.below HB3.out (fun k hk=>(HO2.lt k hk).2))
   rw[k3]
   obtain⟨hg8,-,-⟩:=hpl ps r hO
   obtain⟨hl8,hnok,hlsk⟩:=pls_ok hO
   obtain⟨bs,offs,cc,es,HPL⟩:=pls_atK hg8 hl8 HSM.out
   cases es
   have HLS:=ξh hlsk
   have HNOK:=ξh hnok
   have h14:n.fs.length≤14:=(ξM hnok).2.2.1
   have HU:=ξh (show∀t i,ξT n fs gs t i=((popN (ξU (ps[t]?.getD []) (i:Int)):Nat):Int) from fun t i=>by unfold ξT;rw[hO])
   have HRP:=ξh (show∀t,t<8→ξam ⟨n,ps[t]?.getD []⟩=true from fun t ht=>by
    obtain⟨-,h2,h3,h4⟩:=ξau hO
    have he:ps[t]?= some (ps[t]?.getD []):=by rw[ξg (by omega)];rfl
    exact runP_pln h2 h3 h4 ht he)
   have HUO:=ξh (fun t (ht:t<8) (vp:Value) (k:Nat) w' (hp:PlnR w' vp ⟨n,ps[t]?.getD []⟩)=>ξc5 vp ⟨n,ps[t]?.getD []⟩ (k:Int) w' hp ((HLS.out t ht).lgo HNOK.out))
   have HUT:=ξh (fun t (ht:t<8) (k:Nat)=>ξaA ((HLS.out t ht).lgo HNOK.out) (k:Int))
   have HUB:=ξh (fun t i=>planU_bd n fs gs t i)
   have HST:=ξh (fun k=>upT_step n fs gs l k)
   have HLN:=ξh (fun k=>upT_len n fs gs l k)
   cases hin:inB l 0 24 with
   | false=>
     have HE:=ξh (⟨by unfold upK;rw[k3,hin];rfl,by unfold upL upK;rw[k3,hin];rfl⟩:upK n fs gs l=false∧upL n fs gs l=[])
     have HOF:=ξh (HO3.mono (show w.heap.size≤bx+1 by have:=HBX.out;omega))
     clear b2 hpl k3 hg8 hl8 hnok hlsk hO HP h14
     go_wp2_with (go_at_call 77;refine(ξI _ _ _ _).mono ?_;rintro e w' ⟨rfl,rfl⟩;rw[hin])
     rw[HNP.out]
     exact⟨_,by rw[HE.1];rfl,by rw[HE.2];exact HOF.ofr,HB4.out⟩
   | true=>
     have HE:=ξh (⟨by unfold upK;rw[k3,hin];rfl,by unfold upL upK;rw[k3,hin];rfl⟩:upK n fs gs l=true∧upL n fs gs l=upT n fs gs l n.fs.length)
     have HX5:=ξh (ξA HX2.out HB3.out)
     have HX3:=ξh (ξn w2 (.cells #[.slice (some ⟨bs,offs,none⟩) 8 cs,.slice a m c] 95))
     clear b2 hpl k3 hg8 hl8 hnok hlsk hO HP h14
     go_upto_region 3 with fail
     obtain⟨bq,hbq⟩:∃bq,bq=w2.heap.size:=⟨_,rfl⟩
     rw[←hbq] at HX3 ⊢
     have HBQ:=ξh hbq
     clear hbq
     generalize w2.alloc (.cells #[.slice (some ⟨bs,offs,none⟩) 8 cs,.slice a m c] 95)=w3 at *
     obtain⟨bo,hbo⟩:∃bo,bo=bx+1:=⟨_,rfl⟩
     rw[←hbo] at HO3 HZ1 HZ2 ⊢
     have HBO:=ξh hbo
     clear hbo
     go_wp2_with (go_at_call 77;refine(ξI _ _ _ _).mono ?_;rintro e w' ⟨rfl,rfl⟩;rw[hin])
     clear hin
     go_loopw [10,13] (fun s8 i wr=>∃(k:Nat) (ao:Option Addr) (no co:Nat),k≤m2∧i= .int .i64 k∧s8= .slice ao no co∧Hid (Own wr bo (.slice ao no co) (upT n fs gs l k))∧Hid (Mv (QQ bo) (QQ bo) w3 wr)∧Hid (∀g,(Value.slice ao no co).ownBlock=some g→g=bo∨w3.heap.size≤g)) (fun _ i _=>m2-(intOf i).toNat)
     case atStart=>exact⟨0,_,_,_,by omega,rfl,rfl,HO3.out,Mv.of_below (ξb _ _),fun g hg=> .inl (by simpa[Value.ownBlock] using hg.symm)⟩
     case round=>
      obtain⟨k,ao,no,co,hk,rfl,rfl,HO,HM,HOB⟩:=hrel
      have HKQ:=ξh (fun wq (hb:Below wr.heap.size wr wq) k (hk:k≠bo) (hl:k<w3.heap.size)=>show wq.heap[k]?= w3.heap[k]? from(hb.block k (ξq hl HM.size)).trans (HM.block k hl hk))
      have HZ3:=ξh HB3.size
      have HPW:=ξh (fun t (ht:t<8) wq (hb:Below wr.heap.size wr wq)=>HPL.out wq (fun k h1 h2=>(HKQ.out wq hb k (by have:=HZ1.out;omega) (ξq h2 HZ3.out)).trans (HB3.block k h2)) t ht)
      have HXN:=ξh (fun wq (hb:Below wr.heap.size wr wq)=>(HKQ.out wq hb bx (by have:=HBO.out;omega) (ξa HX5.out).1).trans HX5.out)
      have HXR:=ξh (fun wq (hb:Below wr.heap.size wr wq)=>(HKQ.out wq hb bq (by have:=HZ2.out;have:=HBQ.out;omega) (ξa HX3.out).1).trans HX3.out)
      have z5:=blkc (HXN.out _ (ξb _ _)) (j:=1) (u:= .slice a2 m2 c2) rfl
      by_cases hlk:k<m2
      · have hlkI:(k:Int)<(m2:Int):=by omega
        have HSX:=ξh (HST.out k)
        have HVU:=ξh (fun t=>HU.out t k)
        have HLO:=ξh (show(upT n fs gs l k).length≤4000000 by rw[HLN.out];have:=(ξM HNOK.out).2.2.1;have:=HN2.out;omega)
        generalize upT n fs gs l k=ys at HO HLO HSX
        generalize hV:(fun t=>ξT n fs gs t k)=V at HSX
        have HVV:=ξh (show∀t,V t=ξT n fs gs t k from fun t=>by rw[←hV])
        clear hV
        go_wp2_with fail
        clear z5
        obtain⟨wo,hwo⟩:∃wo,wo=wr:=⟨_,rfl⟩
        subst hwo
        go_loopw [14,15] (fun s14 i wq=>∃d:Nat,d≤8∧i= .int .i64 (7-(d:Int))∧s14= .int .i64 (bwd V l d)∧Hid (Below wo.heap.size wo wq)) (fun _ i _=>(intOf i+1).toNat)
        case atStart=>exact⟨0,by omega,rfl,rfl,ξb _ _⟩
        case round=>
         obtain⟨d,hd,rfl,rfl,HB⟩:=hrel
         by_cases hlt:d<8
         · obtain⟨t,ht⟩:∃t:Nat,t=7-d:=⟨_,rfl⟩
           have h7:7-(d:Int)=(t:Int):=by omega
           rw[h7]
           have ht8:t<8:=by omega
           have HT8:=ξh ht8
           have h77:(7:Int)-((d+1:Nat):Int)=(t:Int)-1:=by omega
           have H77:=ξh h77
           have f1:wrap64 ((t:Int)-1)=(t:Int)-1:=ξw _ (by omega)
           have HSS:=ξh (show bwd V l (d+1)=if l<V t then(t:Int) else bwd V l d by rw[bwd,←ht])
           have z3:=blkc (HXR.out _ HB.out) (j:=0) (u:= .slice (some ⟨bs,offs,none⟩) 8 cs) rfl
           obtain⟨p1,q1,d1,p2,q2,d2,p3,q3,d3,e0,e1,e2,hpr⟩:=HPW.out t ht8 _ HB.out
           have HC1:=ξh (HUO.out t ht8 _ k _ hpr)
           have HMV:=ξh ((HVV.out t).trans (HVU.out t))
           have HML:=ξh (HUT.out t ht8 k)
           try dsimp only at HC1
           generalize ξU (ps[t]?.getD []) (k:Int)=M at *
           generalize bwd V l d=F at *
           generalize V t=u at *
           have HD:=ξh hlt
           have htn:(0:Int)≤(t:Int):=by omega
           have HTD:=ξh ht
           clear hpr h7 h77 ht hlt
           go_wp2_with fail
           refine HC1.mono ?_
           rintro e w7 ⟨rfl,b7⟩
           have HB7:=ξh (HB.trans (b7.mono HB.size))
           have HCM:=ξh (ξbT M HML.out w7)
           rw[←HMV.out] at HCM
           clear b7 z3 e0 e1 e2
           by_cases hgt:l<u
           · rw[if_pos hgt] at HSS
             have hgd:decide (u>l)=true:=ξt hgt
             go_wp2_with (go_at_call 83;refine HCM.mono ?_;rintro e w' ⟨rfl,rfl⟩)
             go_roundw
             case rel=>exact⟨d+1,by have:=HD.out;omega,by rw[H77.out],by rw[HSS.out],HB7.out⟩
             case measure=>simp[intOf]
           · rw[if_neg hgt] at HSS
             have hgd:decide (u>l)=false:=ξf hgt
             go_wp2_with (go_at_call 83;refine HCM.mono ?_;rintro e w' ⟨rfl,rfl⟩)
             go_roundw
             case rel=>exact⟨d+1,by have:=HD.out;omega,by rw[H77.out],by rw[HSS.out],HB7.out⟩
             case measure=>simp[intOf]
         · obtain rfl:d=8:=by omega
           have HO6:=ξh (HO.below HB.out (fun k hk=>(HO.lt k hk).2))
           have HM6:=ξh (HM.trans (Mv.of_below HB.out))
           have HSZ:=ξh (show bo≤wr.heap.size by have:=HM6.size;have:=HZ3.out;have:=HZ2.out;omega)
           generalize bwd V l 8=F at *
           go_wp2_with (first
            | (at_builtin;go_loud (refine ξa6 rfl (.tmp 54) (.tmp 56) 58 rfl Tryz.underlying58 Tryz.infoI bo (.slice ao no co) ys rfl HO6.out rfl HLO.out HSZ.out ?_);intro v8 w8 o8 g8 l8;have HO8:=ξh o8;have HM8:=ξh (show Mv (QQ bo) (QQ bo) w3 w8 from HM6.grown8 g8 HOB.out);have HOB8:=ξh (show∀g,v8.ownBlock=some g→g=bo∨w3.heap.size≤g from fun g hg=>(l8 g hg).elim (fun h=>HOB.out g h) (fun h=> .inr (ξs HM6.size h)));obtain⟨a8,n8,c8,rfl⟩:∃a n c,v8= .slice a n c:=ξag o8;clear o8 g8 l8))
           go_roundw
           case rel=>exact⟨k+1,_,_,_,by omega,by go_num,rfl,by rw[HSX.out];exact HO8.out,HM8.out,HOB8.out⟩
           case measure=>simp[intOf];omega
      · have hlkI:¬(k:Int)<(m2:Int):=by omega
        obtain rfl:k=m2:=by omega
        have HOF:=ξh (HO.mono (show w.heap.size≤bo by have:=HBO.out;have:=HBX.out;omega))
        have HBF:=ξh (HM.below HB4.out HB4.size (fun g hg=>by have:=HBO.out;have:=HBX.out;rw[show g=bo from hg];omega))
        rw[HN2.out] at HE
        go_wp2_with fail
        rw[HNP.out]
        exact⟨_,by rw[HE.1],by rw[HE.2];exact HOF.ofr,HBF.out⟩
theorem implPeak_any (v vf vg:Value) (n:Net) (fs:List Fmt) (gs:List Gro) (w:World) (h:NetR w v n) (hf:Rdt w (flt 2 fmE fs) vf) (hg:Rdt w (flt 6 groE gs) vg):
 Calls Tryz.prog 31 #[v,vf,vg] w (PkP n fs gs w):=by
 obtain⟨NP,hNP⟩:∃NP,NP=PkP n fs gs w:=⟨_,rfl⟩
 rw[←hNP]
 have HNP:=ξh hNP
 have HP:=ξh (fun w' (hb:Below w.heap.size w w')=>ξaZ v vf vg n fs gs w' (h.behind hb) (hf.behind hb) (hg.behind hb))
 have hnet:=h
 obtain⟨u1,u2,rfl,r1,r2,hsm⟩:=h
 obtain⟨⟨a1,m1,c1,rfl⟩,-⟩:=ξF hnet
 obtain⟨a2,m2,c2,rfl,HN2,hc2,hm2,-⟩:=ξC (m:=4) (enc:=fibE) (fun _=>rfl) (by omega) nilB r2
 obtain⟨af,mf,cf,rfl,-,-,-,-⟩:=ξC (m:=2) (enc:=fmE) (fun _=>rfl) (by omega) ξJ hf
 obtain⟨ag,mg,cg,rfl,-,-,-,-⟩:=ξC (m:=6) (enc:=groE) (fun _=>rfl) (by omega) nilG hg
 have HSM:=ξh (show NetSm n from hsm)
 have HB1:=ξh ((ξb w.heap.size w).alloc (ξr _) (.cells #[.slice a1 m1 c1,.slice a2 m2 c2] 35))
 have HX1:=ξh (ξn w (.cells #[.slice a1 m1 c1,.slice a2 m2 c2] 35))
 clear hnet hf hg hNP r1 r2 hsm
 go_enter Tryz.func31,Tryz.ntmps31
 go_wp2_with fail
 obtain⟨bx,hbx⟩:∃bx,bx=w.heap.size:=⟨_,rfl⟩
 rw[←hbx] at HX1 ⊢
 clear hbx
 generalize w.alloc (.cells #[.slice a1 m1 c1,.slice a2 m2 c2] 35)=w1 at *
 refine(HP.out w1 HB1.out).mono ?_
 rintro e w2 ⟨b2,aw,ms,cs,a,m,c,rfl,hpl,hno⟩
 have HB2:=ξh (HB1.trans (b2.mono HB1.size))
 have HX2:=ξh (ξA HX1.out b2)
 cases hO:ξR n fs gs with
 | none=>
   obtain⟨-,k2⟩:=ξap hO
   have HE:=ξh (show pkK n fs gs=false by unfold pkK;rw[k2];rfl)
   rw[k2]
   clear b2 hpl hO hno k2
   go_wp2
   rw[HNP.out]
   exact bodyPost_ret (res_tmp4 (t:=6) (u:=7) (v:=8) (x:=9) rfl _ _ _) rfl ⟨by unfold pk3;rw[HE.out];rfl,HB2.out⟩
 | some x=>
   obtain⟨ps,r⟩:=x
   have k3:=(ξaf hO).2.2
   rw[k3]
   have z1:=blkc HX2.out (j:=1) (u:= .slice a2 m2 c2) rfl
   by_cases hz:m2=0
   · have HE:=ξh (show pkK n fs gs=false by unfold pkK;rw[k3,HN2.out,hz];rfl)
     subst hz
     clear b2 hpl hO hno k3
     go_wp2
     rw[HNP.out]
     exact bodyPost_ret (res_tmp4 (t:=6) (u:=7) (v:=8) (x:=9) rfl _ _ _) rfl ⟨by unfold pk3;rw[HE.out];rfl,HB2.out⟩
   have HE:=ξh (show pkK n fs gs=true by unfold pkK;rw[k3,HN2.out];simp;omega)
   have hzI:((m2:Int)==0)=false:=by simp;omega
   obtain⟨hg8,-,-⟩:=hpl ps r hO
   obtain⟨hl8,hnok,hlsk⟩:=pls_ok hO
   obtain⟨bs,offs,cc,es,hbs,HPL⟩:=pls_at hg8 hl8 HSM.out
   cases es
   have HLS:=ξh hlsk
   have HNOK:=ξh hnok
   have HU:=ξh (show∀t i,ξT n fs gs t i=((popN (ξU (ps[t]?.getD []) (i:Int)):Nat):Int) from fun t i=>by unfold ξT;rw[hO])
   clear b2 hpl hno k3 hg8 hl8 hnok hlsk hO
   have HRS:=ξh (show pk3 n fs gs=pkA (ξT n fs gs) m2 8 (0,0,-1) by
    unfold pk3;rw[HE.out,if_pos rfl,HN2.out,pkA_eq (planU_nn n fs gs) (by omega) 8 (by omega)])
   have h14:m2≤14:=by have:=(ξM HNOK.out).2.2.1;have:=HN2.out;omega
   have HUO:=ξh (fun t (ht:t<8) (vp:Value) w' (hp:PlnR w' vp ⟨n,ps[t]?.getD []⟩)=>usedOn_any vp ⟨n,ps[t]?.getD []⟩ w' hp (by show n.fs.length≤1048576;rw[HN2.out];omega) (ξs (HLS.out t ht).1 (by decide)) ((HLS.out t ht).lgo HNOK.out))
   have HUG:=ξh (fun t (ht:t<8) i (hi:i<m2)=>(useL_get (n:=n) (ls:=ps[t]?.getD []) ((HLS.out t ht).lgo HNOK.out) (i:=i) (by rw[HN2.out];exact hi)).trans (HU.out t i).symm)
   have HUL:=ξh (fun(t:Nat)=>show(useL (ξa5 (ps[t]?.getD []) n.fs.length)).length=m2 by rw[useL_len];exact((ξaF (ps[t]?.getD []) _).trans (by simp)).trans HN2.out)
   generalize ξT n fs gs=U at *
   go_wp2_with fail
   clear hzI z1 hz
   have HBS:=ξh hbs
   clear hbs
   go_loopw [13,14,15,38] (fun s13 s14 s15 i wr=>∃(t:Nat) (x1 x2 x3:Int),t≤8∧i= .int .i64 t∧s13= .int .i64 x1∧s14= .int .i64 x2∧s15= .int .i64 x3∧Hid (pkA U m2 t (0,0,-1)=(x1,x2,x3))∧Hid (Below w2.heap.size w2 wr)) (fun _ _ _ i _=>8-(intOf i).toNat)
   case atStart=>exact⟨0,0,0,-1,by omega,rfl,rfl,rfl,rfl,rfl,ξb _ _⟩
   case round=>
    obtain⟨t,x1,x2,x3,ht,rfl,rfl,rfl,rfl,HS,HB⟩:=hrel
    by_cases hlt:t<8
    · have hltI:(t:Int)<8:=by omega
      obtain⟨p1,q1,d1,p2,q2,d2,p3,q3,d3,k0,k1,k2,hpr⟩:=HPL.out t hlt
      have c0:=(HB.cell (p:=⟨bs,offs+t * 3,none⟩) HBS.out).trans k0
      have c1:=(HB.cell (p:=⟨bs,offs+t * 3+1,none⟩) HBS.out).trans k1
      have c2:=(HB.cell (p:=⟨bs,offs+t * 3+2,none⟩) HBS.out).trans k2
      have HPR:=ξh (hpr.behind HB.out)
      clear k0 k1 k2 hpr
      go_upto_region 8 with fail
      have n2':=ξn wr (.cells #[.slice p1 q1 d1,.slice p2 q2 d2,.slice p3 q3 d3] 75)
      have HB5:=ξh ((ξb wr.heap.size wr).alloc (ξr _) (.cells #[.slice p1 q1 d1,.slice p2 q2 d2,.slice p3 q3 d3] 75))
      obtain⟨bq,hbq⟩:∃bq,bq=wr.heap.size:=⟨_,rfl⟩
      rw[←hbq] at n2' ⊢
      clear hbq c0 c1 c2
      generalize wr.alloc (.cells #[.slice p1 q1 d1,.slice p2 q2 d2,.slice p3 q3 d3] 75)=w5 at *
      have y0:=blkc n2' (j:=0) (u:= .slice p1 q1 d1) rfl
      have y1:=blkc n2' (j:=1) (u:= .slice p2 q2 d2) rfl
      have y2:=blkc n2' (j:=2) (u:= .slice p3 q3 d3) rfl
      have HL:=ξh (HUL.out t)
      have HG:=ξh (HUG.out t hlt)
      have HUS:=ξh (HUO.out t hlt _ w5 (HPR.behind HB5.out))
      have HNX:=ξh (show pkA U m2 (t+1) (0,0,-1)=pkR (U t) t m2 (x1,x2,x3) by rw[pkA,HS.out])
      have HB6:=ξh (HB.trans (HB5.mono HB.size))
      try dsimp only at HUS
      generalize useL (ξa5 (ps[t]?.getD []) n.fs.length)=L at *
      generalize U t=V at HG HNX
      clear n2'
      go_wp2_with fail
      refine HUS.mono ?_
      rintro e w6 ⟨v6,rfl,o6,b6⟩
      obtain⟨a6,c6,m6,HM6,rfl,hc6,hm6,hcs⟩:=o6.rd.opn
      have hm6':m6=m2:=by rw[←HM6.out];exact HL.out
      subst hm6'
      have HB7:=ξh (HB6.trans (b6.mono HB6.size))
      have HCS:=ξh hcs
      clear o6 b6 y0 y1 y2 hcs HUS
      go_wp2_with fail
      go_loop [13,14,15,46] (fun s13 s14 s15 i=>∃(k:Nat) (y1 y2 y3:Int),k≤m6∧i= .int .i64 k∧s13= .int .i64 y1∧s14= .int .i64 y2∧s15= .int .i64 y3∧Hid (pkR V t k (x1,x2,x3)=(y1,y2,y3))) (fun _ _ _ i=>m6-(intOf i).toNat)
      case atStart=>exact⟨0,x1,x2,x3,by omega,rfl,rfl,rfl,rfl,rfl⟩
      case round=>
       obtain⟨k,y1,y2,y3,hk,rfl,rfl,rfl,rfl,HR⟩:=hrel
       by_cases hlk:k<m6
       · have hlkI:(k:Int)<(m6:Int):=by omega
         obtain⟨b,off,rfl,hb6,hcs⟩:=HCS.out (by omega)
         have c0:=hcs k hlk
         have HGK:=ξh (HG.out k hlk)
         rw[HGK.out] at c0
         have HST:=ξh (show pkR V t (k+1) (x1,x2,x3)=if y3<V k then((k:Int),(t:Int),V k) else(y1,y2,y3) by rw[pkR,HR.out])
         generalize V k=u at *
         by_cases hgt:y3<u
         · rw[if_pos hgt] at HST
           have hgd:decide (u>y3)=true:=ξt hgt
           clear hcs hb6
           go_wp2
           go_round
           · exact⟨k+1,_,_,_,by omega,by go_num,rfl,rfl,rfl,HST.out⟩
           · simp[intOf];omega
         · rw[if_neg hgt] at HST
           have hgd:decide (u>y3)=false:=ξf hgt
           clear hcs hb6
           go_wp2
           go_round
           · exact⟨k+1,_,_,_,by omega,by go_num,rfl,rfl,rfl,HST.out⟩
           · simp[intOf];omega
       · have hlkI:¬(k:Int)<(m6:Int):=by omega
         obtain rfl:k=m6:=by omega
         go_wp2
         go_roundw
         case rel=>exact⟨t+1,y1,y2,y3,by omega,by go_num,rfl,rfl,rfl,by rw[HNX.out];exact HR.out,HB7.out⟩
         case measure=>simp[intOf];omega
    · obtain rfl:t=8:=by omega
      have hr:pk3 n fs gs=(x1,x2,x3):=HRS.trans HS.out
      have HRR:=ξh hr
      clear hr
      go_wp2_with fail
      rw[HNP.out]
      exact bodyPost_ret (res_tmp4 (t:=6) (u:=7) (v:=8) (x:=9) rfl _ _ _) rfl ⟨by rw[HRR.out,HE.out];rfl,HB2.trans (HB.mono HB2.size)⟩
theorem lim_rng:∀j,j<8→ ∃x:Int,-1≤x∧x≤25∧(#[.int .i64 0,.int .i64 2,.int .i64 4,.int .i64 6,.int .i64 10,.int .i64 24,.int .i64 (-1),.int .i64 25]:Array Value)[j]?= some (.int .i64 x)
 | 0,_=>⟨0,by omega,by omega,rfl⟩
 | 1,_=>⟨2,by omega,by omega,rfl⟩
 | 2,_=>⟨4,by omega,by omega,rfl⟩
 | 3,_=>⟨6,by omega,by omega,rfl⟩
 | 4,_=>⟨10,by omega,by omega,rfl⟩
 | 5,_=>⟨24,by omega,by omega,rfl⟩
 | 6,_=>⟨-1,by omega,by omega,rfl⟩
 | 7,_=>⟨25,by omega,by omega,rfl⟩
 | j+8,h=>by omega
theorem drawUP_any (a:Option Addr) (len cap:Nat) (w:World) (h:RdB w (.slice a len cap)):
 Calls Tryz.prog 39 #[.slice a len cap] w (DbI w):=by
 obtain⟨NP,hNP⟩:∃NP,NP=DbI w:=⟨_,rfl⟩
 rw[←hNP]
 obtain⟨d1,d2,d3,d4⟩:=ξbu h 35 #[.slice none 0 0,.slice none 0 0]
 have HC2:=ξh d1
 have HR:=ξh d2
 have HB2:=ξh d3
 have HZ2:=ξh d4
 clear d1 d2 d3 d4 h
 go_enter Tryz.func39,Tryz.ntmps39
 go_upto_region 2 with fail
 generalize (w.alloc (.cells #[.slice none 0 0,.slice none 0 0] 35)).alloc (.cells #[.slice a len cap,.int .i64 0,.int .u64 0] 117)=w2 at *
 obtain⟨br,hq⟩:∃br,br=w.heap.size:=⟨_,rfl⟩
 obtain⟨B,hB⟩:∃B,B=w.heap.size+1:=⟨_,rfl⟩
 have hbr:w.heap.size≤br:=by omega
 have hBb:w.heap.size≤B:=by omega
 have hrB:br<B:=by omega
 rw[←hq] at HR
 rw[←hB] at HC2
 have hB2:B+1≤w2.heap.size:=by have:=HZ2.out;omega
 rw[←hB,←hq]
 clear hq hB HZ2
 go_wp2_with fail
 refine(grown_any B _ 0 w2 HC2.out (by omega)).mono ?_
 rintro e w3 ⟨a1,m1,c1,a2,m2,c2,af,mf,cf,ag,mg,cg,n,gs,rfl,hg,hc3⟩
 have HR:=ξh (hc3.blk HR.out (by omega))
 have HBW:=ξh (hc3.belowAll HB2.out hBb)
 have CC:=ξh (HC2.here.call hc3)
 have HG:=ξh (hg.lower hB2)
 clear hg hc3 HC2 HB2
 have hBw3:B<w3.heap.size:=CC.st.lt.1
 go_upto_region 3 with fail
 have ha:=(ξb w3.heap.size w3).alloc (ξr _) (.cells #[.slice a1 m1 c1,.slice a2 m2 c2] 35)
 have HX:=ξh (ξn w3 (.cells #[.slice a1 m1 c1,.slice a2 m2 c2] 35))
 have HR:=ξh (ξA HR.out ha)
 have HG:=ξh (HG.below ha)
 have HBW:=ξh (HBW.trans (ha.mono HBW.size))
 have CC:=ξh (CC.below ha)
 obtain⟨bx,hq⟩:∃bx,bx=w3.heap.size:=⟨_,rfl⟩
 have hxB:bx≠B:=by have:=CC.1.1;have:=CC.size;have h2:=(ξa HX.out).1;have h3:B<w3.heap.size:=ξq hBw3 (ξr _);omega
 rw[←hq] at HX ⊢
 have hrx:br≠bx:=by have:=hrB;omega
 clear hq ha
 generalize w3.alloc (.cells #[.slice a1 m1 c1,.slice a2 m2 c2] 35)=w4 at *
 have HSS:=ξh (fun(w':World) (hx:w'.heap[bx]?= some (.cells #[.slice a1 m1 c1,.slice a2 m2 c2] 35 (0,0)))=>show w'.cell? ⟨bx,0,none⟩=some (.slice a1 m1 c1)∧w'.cell? ⟨bx,1,none⟩=some (.slice a2 m2 c2) from⟨blkc hx rfl,blkc hx rfl⟩)
 have hrBn:br≠B:=by omega
 refine ξH [0,1,2,3,4,5,6,7,8,9,10,11,12,13,14] (S:=fun w'=>w'.cell? ⟨bx,0,none⟩=some (.slice a1 m1 c1)∧w'.cell? ⟨bx,1,none⟩=some (.slice a2 m2 c2)) (by kernel_rfl) (HSS.out _ (show w4.drew.heap[bx]?= _ from HX.out)) (fun hH=> ?_)
 have CC:=ξh CC.drew
 have HX:=ξh (show w4.drew.heap[bx]?= _ from HX.out)
 have HR:=ξh (show w4.drew.heap[br]?= _ from HR.out)
 have HG:=ξh (HG.below (ξb _ _).drew)
 have HBW:=ξh HBW.drew
 obtain⟨wc,hwc⟩:∃wc,wc=w4.drew:=⟨_,rfl⟩
 rw[←hwc] at CC HX HR HG HBW hH ⊢
 clear hwc
 refine hlF 0 rfl hH ?_
 try simp only[Act.put,hlA,hlB,hlC]
 refine hlF 1 rfl hH ?_
 try simp only[Act.put,hlA,hlB,hlC]
 refine hlF 2 rfl hH ?_
 try simp only[Act.put,hlA,hlB,hlC]
 refine hlF 3 rfl hH ?_
 try simp only[Act.put,hlA,hlB,hlC]
 refine hlF 5 rfl hH ?_
 try simp only[Act.put,hlA,hlB,hlC]
 refine ξB (rs:=[4,6]) (by kernel_rfl) (by simp) ?_
 refine AllReadyL.cons rfl (fun KK hKK=> ?_) (AllReadyL.cons rfl (fun KK hKK=> ?_) AllReadyL.nil)
 go_simp
 obtain⟨bg,hbg⟩:∃bb,bb=wc.heap.size:=⟨_,rfl⟩
 have BA:Below wc.heap.size wc (wc.alloc (.cells #[.int .i64 0,.int .i64 2,.int .i64 4,.int .i64 6,.int .i64 10,.int .i64 24,.int .i64 (-1),.int .i64 25] 3)):=(ξb _ _).alloc (ξr _) _
 have HL:=ξn wc (.cells #[.int .i64 0,.int .i64 2,.int .i64 4,.int .i64 6,.int .i64 10,.int .i64 24,.int .i64 (-1),.int .i64 25] 3)
 have hgB:bg≠B:=by have:=CC.st.lt.1;omega
 rw[←hbg] at HL ⊢
 have HL:=ξh HL
 have HX:=ξh (ξA HX.out BA)
 have HR:=ξh (ξA HR.out BA)
 have HG:=ξh (HG.below BA)
 have HBW:=ξh (HBW.trans (BA.mono HBW.size))
 have CC:=ξh (CC.below BA)
 clear hbg BA
 generalize wc.alloc (.cells #[.int .i64 0,.int .i64 2,.int .i64 4,.int .i64 6,.int .i64 10,.int .i64 24,.int .i64 (-1),.int .i64 25] 3)=wn at *
 obtain⟨wc,hwc⟩:∃wc,wc=wn:=⟨_,rfl⟩
 subst hwc
 refine hKK.out _ _ (HSS.out _ HX.out) (fun hH=> ?_)
 clear hKK KK
 try simp only[Act.put,hlA,hlB,hlC]
 have R4:True:=trivial
 rotate_left 1
 go_simp
 go_at_call 72
 refine(ξX B _ _ 40 _ CC.st (by omega) (by omega) (by omega)).mono ?_
 rintro e wn ⟨xq,q0,q1,rfl,hcA,-⟩
 skip
 have HX:=ξh (hcA.blk HX.out hxB)
 have HR:=ξh (hcA.blk HR.out hrBn)
 have HG:=ξh (HG.cs (by omega) hcA)
 have HBW:=ξh (hcA.belowAll HBW.out hBb)
 have CC:=ξh (CC.call hcA)
 clear hcA
 obtain⟨q,hqq,hq01⟩:∃q:Nat,xq.tdiv 20=(q:Int)∧q≤1:=by
  have hq:xq.tdiv 20=xq/20:=Int.tdiv_eq_ediv_of_nonneg q0
  have hq2:xq/20=0∨xq/20=1:=by omega
  rcases hq2 with h | h
  · exact⟨0,by rw[hq,h];rfl,by omega⟩
  · exact⟨1,by rw[hq,h];rfl,by omega⟩
 have hw0:IntKind.i64.wrap (q:Int)=(q:Int):=ξi _ (by omega)
 obtain⟨nq,hnq⟩:∃nq:Nat,nq=6+q:=⟨_,rfl⟩
 have hw1:IntKind.i64.wrap (6+(q:Int))=(nq:Int):=by rw[ξi _ (by omega)];omega
 have i1:(0:Int)≤(nq:Int):=by omega
 have i2:(nq:Int)≤8:=by omega
 have hn1:1≤nq:=by omega
 have hn8:nq≤8:=by omega
 clear hnq
 obtain⟨wc,hwc⟩:∃wc,wc=wn:=⟨_,rfl⟩
 subst hwc
 refine hKK.out _ _ (HSS.out _ HX.out) (fun hH=> ?_)
 clear hKK KK
 try simp only[Act.put,hlA,hlB,hlC]
 have R6:True:=trivial
 refine hlF 7 rfl hH ?_
 try simp only[Act.put,hlA,hlB,hlC]
 refine hlF 8 rfl hH ?_
 try simp only[Act.put,hlA,hlB,hlC]
 rotate_left 1
 all_goals
  first
   | have hD:True:=R4
     clear hD
     refine ξB (rs:=[6]) (by kernel_rfl) (by simp) ?_
     refine AllReadyL.cons rfl (fun KK hKK=> ?_) AllReadyL.nil
     go_simp
     go_at_call 72
     refine(ξX B _ _ 40 _ CC.st (by omega) (by omega) (by omega)).mono ?_
     rintro e wn ⟨xq,q0,q1,rfl,hcA,-⟩
     have HL:=ξh (hcA.blk HL.out hgB)
     have HX:=ξh (hcA.blk HX.out hxB)
     have HR:=ξh (hcA.blk HR.out hrBn)
     have HG:=ξh (HG.cs (by omega) hcA)
     have HBW:=ξh (hcA.belowAll HBW.out hBb)
     have CC:=ξh (CC.call hcA)
     clear hcA
     obtain⟨q,hqq,hq01⟩:∃q:Nat,xq.tdiv 20=(q:Int)∧q≤1:=by
      have hq:xq.tdiv 20=xq/20:=Int.tdiv_eq_ediv_of_nonneg q0
      have hq2:xq/20=0∨xq/20=1:=by omega
      rcases hq2 with h | h
      · exact⟨0,by rw[hq,h];rfl,by omega⟩
      · exact⟨1,by rw[hq,h];rfl,by omega⟩
     have hw0:IntKind.i64.wrap (q:Int)=(q:Int):=ξi _ (by omega)
     obtain⟨nq,hnq⟩:∃nq:Nat,nq=6+q:=⟨_,rfl⟩
     have hw1:IntKind.i64.wrap (6+(q:Int))=(nq:Int):=by rw[ξi _ (by omega)];omega
     have i1:(0:Int)≤(nq:Int):=by omega
     have i2:(nq:Int)≤8:=by omega
     have hn1:1≤nq:=by omega
     have hn8:nq≤8:=by omega
     clear hnq
     obtain⟨wc,hwc⟩:∃wc,wc=wn:=⟨_,rfl⟩
     subst hwc
     refine hKK.out _ _ (HSS.out _ HX.out) (fun hH=> ?_)
     clear hKK KK
     try simp only[Act.put,hlA,hlB,hlC]
     have R6:True:=trivial
     refine hlF 7 rfl hH ?_
     try simp only[Act.put,hlA,hlB,hlC]
     refine hlF 8 rfl hH ?_
     try simp only[Act.put,hlA,hlB,hlC]
     refine hlF 9 rfl hH ?_
     try simp only[Act.put,hlA,hlB,hlC]
   | have hD:True:=R6
     clear hD
     refine ξB (rs:=[4]) (by kernel_rfl) (by simp) ?_
     refine AllReadyL.cons rfl (fun KK hKK=> ?_) AllReadyL.nil
     go_simp
     obtain⟨bg,hbg⟩:∃bb,bb=wc.heap.size:=⟨_,rfl⟩
     have BA:Below wc.heap.size wc (wc.alloc (.cells #[.int .i64 0,.int .i64 2,.int .i64 4,.int .i64 6,.int .i64 10,.int .i64 24,.int .i64 (-1),.int .i64 25] 3)):=(ξb _ _).alloc (ξr _) _
     have HL:=ξn wc (.cells #[.int .i64 0,.int .i64 2,.int .i64 4,.int .i64 6,.int .i64 10,.int .i64 24,.int .i64 (-1),.int .i64 25] 3)
     have hgB:bg≠B:=by have:=CC.st.lt.1;omega
     rw[←hbg] at HL ⊢
     have HL:=ξh HL
     have HX:=ξh (ξA HX.out BA)
     have HR:=ξh (ξA HR.out BA)
     have HG:=ξh (HG.below BA)
     have HBW:=ξh (HBW.trans (BA.mono HBW.size))
     have CC:=ξh (CC.below BA)
     clear hbg BA
     generalize wc.alloc (.cells #[.int .i64 0,.int .i64 2,.int .i64 4,.int .i64 6,.int .i64 10,.int .i64 24,.int .i64 (-1),.int .i64 25] 3)=wn at *
     obtain⟨wc,hwc⟩:∃wc,wc=wn:=⟨_,rfl⟩
     subst hwc
     refine hKK.out _ _ (HSS.out _ HX.out) (fun hH=> ?_)
     clear hKK KK
     try simp only[Act.put,hlA,hlB,hlC]
     have R4:True:=trivial
     refine hlF 9 rfl hH ?_
     try simp only[Act.put,hlA,hlB,hlC]
 all_goals
  refine ξB (rs:=[10]) (by kernel_rfl) (by simp) ?_
  refine AllReadyL.cons rfl (fun KK hKK=> ?_) AllReadyL.nil
  go_simp
  go_at_call 73
  refine(ξaw B _ _ bg nq 8 (-1) 25 _ CC.st (by omega) (by omega) (by omega) hgB (ξar HL.out (fun j hj=>lim_rng j (by omega)))).mono ?_
  rintro e wn ⟨xr,r0,r1,rfl,hcA,-⟩
  have HX:=ξh (hcA.blk HX.out hxB)
  have HR:=ξh (hcA.blk HR.out hrBn)
  have HG:=ξh (HG.cs (by omega) hcA)
  have HBW:=ξh (hcA.belowAll HBW.out hBb)
  have CC:=ξh (CC.call hcA)
  clear hcA
  clear HL hgB
  obtain⟨wc,hwc⟩:∃wc,wc=wn:=⟨_,rfl⟩
  subst hwc
  refine hKK.out _ _ (HSS.out _ HX.out) (fun hH=> ?_)
  clear hKK KK
  try simp only[Act.put,hlA,hlB,hlC]
  have R10:True:=trivial
 all_goals
  refine ξB (rs:=[11]) (by kernel_rfl) (by simp) ?_
  refine AllReadyL.cons rfl (fun KK hKK=> ?_) AllReadyL.nil
  have r0:=blkc HR.out (j:=0) (u:= .slice none 0 0) rfl
  have r1:=blkc HR.out (j:=1) (u:= .slice none 0 0) rfl
  have g0:wc.frozen? ⟨br,0,none⟩=false:=ξz _ _ _ _ _ HR.out
  have g1:wc.frozen? ⟨br,1,none⟩=false:=ξz _ _ _ _ _ HR.out
  go_simp
  have HX:=ξh ((ξm _ ⟨br,1,none⟩ bx (.slice a2 m2 c2) (fun e=>hrx e.symm)).trans ((ξm wc ⟨br,0,none⟩ bx (.slice a1 m1 c1) (fun e=>hrx e.symm)).trans HX.out))
  refine hKK.out _ _ (HSS.out _ HX.out) (fun hH=> ?_)
  clear hKK KK
  try simp only[Act.put,hlA,hlB,hlC]
  have R11:True:=trivial
 all_goals
  refine ξB (rs:=[12]) (by kernel_rfl) (by simp) ?_
  refine AllReadyL.cons rfl (fun KK hKK=> ?_) AllReadyL.nil
  go_simp
  refine hKK.out _ _ (HSS.out _ HX.out) (fun hH=> ?_)
  clear hKK KK
  try simp only[Act.put,hlA,hlB,hlC]
  have R12:True:=trivial
 all_goals
  refine ξB (rs:=[13]) (by kernel_rfl) (by simp) ?_
  refine AllReadyL.cons rfl (fun KK hKK=> ?_) AllReadyL.nil
  go_simp
  refine hKK.out _ _ (HSS.out _ HX.out) (fun hH=> ?_)
  clear hKK KK
  try simp only[Act.put,hlA,hlB,hlC]
  have R13:True:=trivial
 all_goals
  refine ξG 14 rfl (by kernel_rfl) (by kernel_rfl) (fun KK hKK=> ?_)
  go_simp
  refine hKK.out _ _ ?_
  clear hKK KK
  try simp only[Act.put,hlA,hlB,hlC]
  refine ξS (by kernel_rfl) ?_ _
 all_goals
  obtain⟨X,hX⟩:∃X,X=xr:=⟨_,rfl⟩
  rw[←hX]
  clear hX r0 r1 g0 g1
  have s0:=ξe wc br 0 _ _ (.slice a1 m1 c1) HR.out
  have s1:=ξe _ br 1 _ _ (.slice a2 m2 c2) s0
  have BW9:=ξh ((HBW.setCell (p:=⟨br,0,none⟩) hbr (.slice a1 m1 c1)).setCell (p:=⟨br,1,none⟩) hbr (.slice a2 m2 c2))
  have G9:=ξh (((HG.set (b:=br) (j:=0) (x:= .slice a1 m1 c1) (by omega)).set (b:=br) (j:=1) (x:= .slice a2 m2 c2) (by omega)).lower (show w.heap.size≤B+1 by omega))
  have t0:=blkc s1 (j:=0) (u:= .slice a1 m1 c1) rfl
  have t1:=blkc s1 (j:=1) (u:= .slice a2 m2 c2) rfl
  clear s0 s1
  go_wp2_with fail
  subst hNP
  exact bodyPost_ret (v:= .tuple #[.agg #[.slice a1 m1 c1,.slice a2 m2 c2],.slice af mf cf,.slice ag mg cg,.int .i64 X]) (by simp[results,Tryz.results39,go_sem,t0,t1]) rfl ⟨_,_,_,_,_,_,_,_,_,_,_,_,n,gs,X,rfl,G9.out,BW9.out⟩
end Go.Proofs.YtofcicomhnkocaaGreat
