import Derived.Test.YtofcicomhnkocaaGreatBx10
import Derived.Test.YtofcicomhnkocaaGreatBx08
set_option linter.unusedVariables false
namespace Go.Proofs.YtofcicomhnkocaaGreat
set_option maxHeartbeats 6400000
open Go.RowKit Go.Sort
set_option maxRecDepth 100000
theorem ξaE {n:Net} (h:ξL n=true):n.ns.length≤8:=by have:=ξM h;omega
theorem ξat (v u:Value) (n:Net) (gs:List Gro) (w:World) (h:NetR w v n) (hg:Rdt w (flt 6 groE gs) u):
 Calls Tryz.prog 27 #[v,u] w fun e w'=>e= .returned (.bool (ξQ n gs))∧Below w.heap.size w w':=by
 have HVN:=ξh (fun w' (hb:Below w.heap.size w w')=>ξas v n w' (h.behind hb))
 have HL:=ξh (@ξaE n)
 obtain⟨u1,u2,rfl,r1,r2,hsm⟩:=h
 obtain⟨a1,m1,c1,rfl,HN1,hc1,hm1,-⟩:=ξC (m:=1) (enc:=strE) (fun _=>rfl) (by omega) nilS r1
 obtain⟨a2,m2,c2,rfl,HN2,hc2,hm2,-⟩:=ξC (m:=4) (enc:=fibE) (fun _=>rfl) (by omega) nilB r2
 obtain⟨a3,m3,c3,rfl,HN3,hc3,hm3,-⟩:=ξC (m:=6) (enc:=groE) (fun _=>rfl) (by omega) nilG hg
 obtain⟨bx,bc,blt,-⟩:=ξD w #[.slice a1 m1 c1,.slice a2 m2 c2] 35
 have q0:=bc 0 _ rfl
 have q1:=bc 1 _ rfl
 have HBX:=ξh bx
 have HG:=ξh (hg.behind bx)
 have HF:=ξh (show ξQ n gs=(ξL n&&decide (m3≤12) && !gs.any (fun g=>!groOk m1 g)) by unfold ξQ;rw[HN1.out,HN3.out])
 rw[HN1.out] at HL
 generalize ξQ n gs=q at *
 clear r1 r2 hsm bc bx hg
 have HFN:=ξh (show IsFn 80 from isFn_of rfl rfl rfl)
 go_enter Tryz.func27,Tryz.ntmps27
 go_wp2_with fail
 generalize w.alloc (.cells #[.slice a1 m1 c1,.slice a2 m2 c2] 35)=w1 at *
 have HVN1:=ξh (HVN.out w1 HBX.out)
 cases hok:ξL n
 · rw[hok] at HVN1 HF
   refine HVN1.mono ?_
   rintro e w2 ⟨rfl,b2⟩
   have HB2:=ξh (HBX.trans (b2.mono HBX.size))
   clear b2
   go_wp2
   go_ret
   exact⟨by rw[HF.out];rfl,HB2.out⟩
 rw[hok] at HVN1 HF
 have hm:=HL.out hok
 clear hok
 refine HVN1.mono ?_
 rintro e w2 ⟨rfl,b2⟩
 have HB2:=ξh (HBX.trans (b2.mono HBX.size))
 have p0:=(b2.cell blt).trans q0
 have p1:=(b2.cell blt).trans q1
 have HG2:=ξh (HG.behind b2)
 clear b2
 by_cases h12:m3≤12
 case neg=>
  have hd:decide ((m3:Int)≤12)=false:=ξf (by omega)
  have hd2:decide (m3≤12)=false:=ξf (by omega)
  clear h12
  go_wp2
  go_ret
  exact⟨by rw[HF.out,hd2];simp,HB2.out⟩
 have hd:decide ((m3:Int)≤12)=true:=ξt (by omega)
 have hd2:decide (m3≤12)=true:=ξt (by omega)
 rw[hd2] at HF
 have HCF:=ξh (ξcd _ gs 80 w.heap.size (fun g=>!groOk m1 g) w2 HG2.out HFN.out (fun i w' _ hb z _=>growthBad_any z w.heap.size a1 a2 m1 c1 m2 c2 w' (by omega) ((hb.cell (ξd _ _ p0)).trans p0) ((hb.cell (ξd _ _ p1)).trans p1)))
 generalize gs.any (fun g=>!groOk m1 g)=any at *
 clear h12
 go_wp2_with fail
 refine HCF.mono ?_
 rintro e w3 ⟨rfl,b3⟩
 have HB3:=ξh (HB2.trans (b3.mono HB2.size))
 clear b3
 go_wp2
 go_ret
 exact⟨by rw[HF.out];rfl,HB3.out⟩
theorem grs_any_no {m:Nat} {gs:List Gro} {i:Nat} (hi:i<gs.length) (h:groOk m (gs[i]?.getD nilG)=false):gs.any (fun g=>!groOk m g)=true:=by
 rw[List.any_eq_true]
 rw[ξg hi] at h
 exact⟨gs[i],ξj hi,by simpa using h⟩
theorem ξbS (v u:Value) (n:Net) (gs:List Gro) (w:World) (h:NetR w v n) (hg:Rdt w (flt 6 groE gs) u):
 Calls Tryz.prog 76 #[v,u] w fun e w'=>e= .returned (.bool (ξQ n gs))∧Below w.heap.size w w':=by
 have HVN:=ξh (fun w' (hb:Below w.heap.size w w')=>ξbq v n w' (h.behind hb))
 have HL:=ξh (@ξaE n)
 obtain⟨u1,u2,rfl,r1,r2,hsm⟩:=h
 obtain⟨a1,m1,c1,rfl,HN1,hc1,hm1,-⟩:=ξC (m:=1) (enc:=strE) (fun _=>rfl) (by omega) nilS r1
 obtain⟨a2,m2,c2,rfl,HN2,hc2,hm2,-⟩:=ξC (m:=4) (enc:=fibE) (fun _=>rfl) (by omega) nilB r2
 obtain⟨a3,m3,c3,rfl,HN3,hc3,hm3,ha3⟩:=ξC (m:=6) (enc:=groE) (fun _=>rfl) (by omega) nilG hg
 obtain⟨bx,bc,blt,-⟩:=ξD w #[.slice a1 m1 c1,.slice a2 m2 c2] 35
 have q0:=bc 0 _ rfl
 have q1:=bc 1 _ rfl
 have HBX:=ξh bx
 have HA:=ξh ha3
 have HF:=ξh (show ξQ n gs=(ξL n&&decide (m3≤12) && !gs.any (fun g=>!groOk m1 g)) by unfold ξQ;rw[HN1.out,HN3.out])
 have HNO:=ξh (fun i hi h=>@grs_any_no m1 gs i hi h)
 have HMO:=ξh (fun k hk h e=>ξaT (zs:=gs) (p:=fun g=>!groOk m1 g) (nil:=nilG) (k:=k) hk h e)
 rw[HN1.out] at HL
 generalize ξQ n gs=q at *
 clear r1 r2 hsm bc bx hg ha3
 go_enter Tryz.func76,Tryz.ntmps76
 go_wp2_with fail
 generalize w.alloc (.cells #[.slice a1 m1 c1,.slice a2 m2 c2] 35)=w1 at *
 have HVN1:=ξh (HVN.out w1 HBX.out)
 cases hok:ξL n
 · rw[hok] at HVN1 HF
   refine HVN1.mono ?_
   rintro e w2 ⟨rfl,b2⟩
   have HB2:=ξh (HBX.trans (b2.mono HBX.size))
   clear b2
   go_wp2
   go_ret
   exact⟨by rw[HF.out];rfl,HB2.out⟩
 rw[hok] at HVN1 HF
 have hm:=HL.out hok
 clear hok
 refine HVN1.mono ?_
 rintro e w2 ⟨rfl,b2⟩
 have HB2:=ξh b2
 clear b2
 by_cases h12:m3≤12
 case neg=>
  have hd:decide (12<(m3:Int))=true:=ξt (by omega)
  have hd2:decide (m3≤12)=false:=ξf (by omega)
  have hd3:decide (12<m3)=true:=ξt (by omega)
  clear h12
  go_wp2
  go_ret
  exact⟨by rw[HF.out,hd2];simp,HBX.trans (HB2.mono HBX.size)⟩
 have hd:decide (12<(m3:Int))=false:=ξf (by omega)
 have hd3:decide (12<m3)=false:=ξf (by omega)
 have hd2:decide (m3≤12)=true:=ξt (by omega)
 rw[hd2] at HF
 clear h12
 go_wp2
 clear hd hd2 hd3
 go_loopw [5] (fun i wr=>∃k:Nat,k≤m3∧i= .int .i64 k∧Hid ((gs.take k).any (fun g=>!groOk m1 g)=false)∧Hid (Below w1.heap.size w1 wr)) (fun i _=>m3-(intOf i).toNat)
 case atStart=>exact⟨0,by omega,rfl,by simp[Hid],HB2.out⟩
 case round=>
  obtain⟨k,hk,rfl,HT,HB⟩:=hrel
  have p0:=(HB.cell blt).trans q0
  have p1:=(HB.cell blt).trans q1
  by_cases hlt:k<m3
  · have hltI:(k:Int)<(m3:Int):=by omega
    have hkx:k<gs.length:=by rw[HN3.out];exact hlt
    obtain⟨b,off,rfl,hbs,hcs⟩:=HA.out (by omega)
    have hcw:=fun(r:Nat) (u:Value) (hu:(groE (gs[k]?.getD nilG))[r]?= some u)=>(HB.cell (p:=⟨b,off+k*6+r,none⟩) (ξq hbs HBX.size)).trans ((HBX.cell hbs).trans (hcs k hlt r u hu))
    have HNK:=ξh (HNO.out k hkx)
    have HMK:=ξh (HMO.out k hkx HT.out)
    have HD:=ξh (fun w=>ξc9 a1 a2 m1 c1 m2 c2 (gs[k]?.getD nilG).d w (by omega))
    have HV:=ξh (show groOk m1 (gs[k]?.getD nilG)=(demOk (gs[k]?.getD nilG).d m1&&inB (gs[k]?.getD nilG).s 0 (gs[k]?.getD nilG).e&&decide ((gs[k]?.getD nilG).e<8)) from rfl)
    have c0:=hcw 0 _ rfl
    have c1:=hcw 1 _ rfl
    have c2:=hcw 2 _ rfl
    have c3:=hcw 3 _ rfl
    have c4:=hcw 4 _ rfl
    have c5:=hcw 5 _ rfl
    simp only[Nat.add_zero] at c0
    clear hcw hcs hkx
    unfold demV at HD
    generalize gs[k]?.getD nilG=g at *
    have j0:=rg c0
    have j1:=rg c1
    have j2:=rg c2
    have j3:=rg c3
    have j4:=rg c4
    have j5:=rg c5
    have j6:=rg p0
    have j7:=rg p1
    clear c0 c1 c2 c3 c4 c5
    cases h1:demOk g.d m1
    · have HE:=ξh (HNK.out (by rw[HV.out,h1];rfl))
      rw[h1] at HD
      clear h1 HV HNK HMK
      go_wp2
      clear p0 p1
      refine ξv ?_
      repeat (go_big_quiet_step (first | (go_at_call 127;exact Calls.regrown_of (HD.out _)) | (go_at_call 77;exact ξK (ξI _ _ _ _))))
      refine wpQuiet_nil ?_
      rintro _ ⟨⟨dq,osq⟩,rfl⟩
      go_wp2
      go_ret
      exact⟨by rw[HF.out,HE.out];rfl,HBX.trans ((HB.mono HBX.size).trans ((ξc _ dq osq).mono (ξs HBX.size HB.size)))⟩
    cases h2:inB g.s 0 g.e
    · have HE:=ξh (HNK.out (by rw[HV.out,h2];simp))
      rw[h1] at HD
      clear h1 HV HNK HMK
      go_wp2
      clear p0 p1
      refine ξv ?_
      repeat (go_big_quiet_step (first | (go_at_call 127;exact Calls.regrown_of (HD.out _)) | (go_at_call 77;exact ξK (ξI _ _ _ _))))
      refine wpQuiet_nil ?_
      rintro _ ⟨⟨dq,osq⟩,rfl⟩
      go_wp2
      go_ret
      exact⟨by rw[HF.out,HE.out];rfl,HBX.trans ((HB.mono HBX.size).trans ((ξc _ dq osq).mono (ξs HBX.size HB.size)))⟩
    rw[h1] at HD
    by_cases h8:g.e<8
    · have hd8:decide (8≤g.e)=false:=ξf (by omega)
      have HS:=ξh (HMK.out (by rw[HV.out,h1,h2,ξt h8];rfl))
      clear h1 HV HNK HMK h8
      go_wp2
      clear p0 p1
      refine ξv ?_
      repeat (go_big_quiet_step (first | (go_at_call 127;exact Calls.regrown_of (HD.out _)) | (go_at_call 77;exact ξK (ξI _ _ _ _))))
      refine wpQuiet_nil ?_
      rintro _ ⟨⟨dq,osq⟩,rfl⟩
      go_wp2
      go_roundw
      case rel=>exact⟨k+1,hlt,by go_num,HS.out,HB.trans ((ξc _ dq osq).mono HB.size)⟩
      case measure=>simp[intOf];omega
    · have hd8:decide (8≤g.e)=true:=ξt (by omega)
      have HE:=ξh (HNK.out (by rw[HV.out,ξf h8];simp))
      clear h1 HV HNK HMK h8
      go_wp2
      clear p0 p1
      refine ξv ?_
      repeat (go_big_quiet_step (first | (go_at_call 127;exact Calls.regrown_of (HD.out _)) | (go_at_call 77;exact ξK (ξI _ _ _ _))))
      refine wpQuiet_nil ?_
      rintro _ ⟨⟨dq,osq⟩,rfl⟩
      go_wp2
      go_ret
      exact⟨by rw[HF.out,HE.out];rfl,HBX.trans ((HB.mono HBX.size).trans ((ξc _ dq osq).mono (ξs HBX.size HB.size)))⟩
  · obtain rfl:m3=k:=by omega
    have hall:=HT.out
    rw[←HN3.out,List.take_length] at hall
    have HE:=ξh hall
    clear hall
    go_wp2
    go_ret
    exact⟨by rw[HF.out,HE.out];rfl,HBX.trans (HB.mono HBX.size)⟩
open Go.RowKit
def grpTo (n:Net) (g:Int) (k:Nat):List Int:=((List.range k).filter fun i=>decide ((fbA n i).r=g)).map fun i:Nat=>(i:Int)
def grp (n:Net) (g:Int):List Int:=grpTo n g n.fs.length
def gA (n:Net):Nat→List (List Int)
 | 0=>[]
 | g+1=>if(grp n ((g+1:Nat):Int)).length=0 then gA n g else gA n g++[grp n ((g+1:Nat):Int)]
def gS (n:Net):Nat→List (List Int)
 | 0=>[]
 | k+1=>if(fbA n k).r=0 then gS n k++[[(k:Int)]] else gS n k
def grps (n:Net):List (List Int):=gA n 9++gS n n.fs.length
def grA (n:Net) (g:Int):List Int:=(grps n)[g.toNat]?.getD []
def fof (n:Net) (gs:List Int):List Int:=gs.flatMap (grA n)
def hitL (p:Pln) (gs:List Int) (x:Lgt):Bool:=ξa9 x.fb (fof p.n gs)
def hitTo (p:Pln) (gs:List Int) (k:Nat):List Int:=((p.ls.take k).filter (hitL p gs)).map (·.id)
def hts (p:Pln) (gs:List Int):List Int:=hitTo p gs p.ls.length
/-! ### Bits -/
def nats (ms:List Nat):List Int:=ms.map fun k:Nat=>(k:Int)
theorem ξbC (ms:List Nat):(nats ms).length=ms.length:=by simp[nats]
theorem nats_at (ms:List Nat) (i:Nat):(nats ms)[i]?.getD 0=((ms[i]?.getD 0:Nat):Int):=by
 unfold nats
 rw[List.getElem?_map]
 cases ms[i]? <;> rfl
theorem or_lt {a b k:Nat} (ha:a<2 ^ k) (hb:b<2 ^ k):a ||| b<2 ^ k:=Nat.or_lt_two_pow ha hb
/-! ### Sets of numbers -/
theorem ξb6 {a b:Nat} (ha:a<16777216) (hb:b<16777216):bits .or .i64 (a:Int) (b:Int)=((a ||| b:Nat):Int):=by
 have hab:a ||| b<2 ^ 24:=or_lt (by omega) (by omega)
 have e:(BitVec.ofInt 64 (a:Int) ||| BitVec.ofInt 64 (b:Int)).toNat=a ||| b:=by
  rw[BitVec.toNat_or,BitVec.ofInt_natCast,BitVec.ofInt_natCast,BitVec.toNat_ofNat,BitVec.toNat_ofNat,Nat.mod_eq_of_lt (by omega),Nat.mod_eq_of_lt (by omega)]
 unfold bits
 show IntKind.i64.wrap (((BitVec.ofInt 64 (a:Int) ||| BitVec.ofInt 64 (b:Int)).toNat:Nat):Int)=_
 rw[e,ξi _ (by omega)]
theorem shl_one {k:Nat} (hk:k<24):wrap64 ((2:Int) ^ k)=((2 ^ k:Nat):Int):=by
 have:(2:Nat) ^ k<2 ^ 24:=Nat.pow_lt_pow_right (by omega) hk
 have e:(2:Int) ^ k=((2 ^ k:Nat):Int):=by simp
 rw[e]
 generalize (2:Nat) ^ k=P at *
 exact ξw _ (by omega)
theorem bit_at {M:Nat} (k:Nat) (hM:M<16777216):bits .and .i64 ((M:Int)/(2:Int) ^ k) 1=if M.testBit k then 1 else 0:=by
 have e:(M:Int)/(2:Int) ^ k=((M/2 ^ k:Nat):Int):=by simp
 have hle:M/2 ^ k≤M:=Nat.div_le_self _ _
 rw[e,show(1:Int)=((1:Nat):Int) from rfl,bits_and (by omega) (by omega),Nat.and_one_is_mod,Nat.testBit_eq_decide_div_mod_eq]
 by_cases h:M/2 ^ k%2=1
 · rw[h];simp
 · have:M/2 ^ k%2=0:=by omega
   rw[this];simp
theorem bit_on {M k:Nat} (hM:M<16777216) (h:M.testBit k=true):bits .and .i64 ((M:Int)/(2:Int) ^ k) 1=1:=by rw[bit_at k hM,h];rfl
theorem bit_off {M k:Nat} (hM:M<16777216) (h:M.testBit k=false):bits .and .i64 ((M:Int)/(2:Int) ^ k) 1=0:=by rw[bit_at k hM,h];rfl
theorem pow_lt24 {k:Nat} (hk:k<24):2 ^ k<16777216:=ξq (Nat.pow_lt_pow_right (by omega) hk) (ξr (2 ^ 24))
theorem othE_a {f:Fib} {t:Int} (h:t=f.a):othE f t=f.b:=by unfold othE;rw[if_pos h]
theorem othE_b {f:Fib} {t:Int} (h:¬t=f.a) (h2:t=f.b):othE f t=f.a:=by unfold othE;rw[if_neg h,if_pos h2]
theorem othE_no {f:Fib} {t:Int} (h:¬t=f.a) (h2:¬t=f.b):othE f t= -1:=by unfold othE;rw[if_neg h,if_neg h2]
theorem ξcj (f:Fib) (t:Int) (w:World):
 Calls Tryz.prog 179 #[fibV f,.int .i64 t] w fun e w'=>e= .returned (.int .i64 (othE f t))∧Below w.heap.size w w':=by
 unfold fibV
 have HA:=ξh (@othE_a f t)
 have HB:=ξh (@othE_b f t)
 have HN:=ξh (@othE_no f t)
 obtain⟨bx,bc,-,-⟩:=ξD w #[.int .i64 f.a,.int .i64 f.b,.int .i64 f.l,.int .i64 f.r] 146
 have q0:=bc 0 _ rfl
 have q1:=bc 1 _ rfl
 have HBX:=ξh bx
 clear bc bx
 generalize othE f t=o at *
 by_cases h1:t=f.a
 · have HE:=ξh (HA.out h1)
   have b1:(t==f.a)=true:=by simp[h1]
   have b2:decide (t=f.a)=true:=by simp[h1]
   clear h1
   go_enter Tryz.func179,Tryz.ntmps179
   go_wp2
   go_ret
   exact⟨by rw[HE.out];rfl,HBX.out⟩
 have b1:(t==f.a)=false:=by simp[h1]
 have b2:decide (t=f.a)=false:=by simp[h1]
 by_cases h2:t=f.b
 · have HE:=ξh (HB.out h1 h2)
   have b3:(t==f.b)=true:=by simp[h2]
   have b4:decide (t=f.b)=true:=by simp[h2]
   clear h1 h2
   go_enter Tryz.func179,Tryz.ntmps179
   go_wp2
   go_ret
   exact⟨by rw[HE.out];rfl,HBX.out⟩
 have b3:(t==f.b)=false:=by simp[h2]
 have b4:decide (t=f.b)=false:=by simp[h2]
 have HE:=ξh (HN.out h1 h2)
 clear h1 h2
 go_enter Tryz.func179,Tryz.ntmps179
 go_wp2
 go_ret
 exact⟨by rw[HE.out];rfl,HBX.out⟩
theorem ξct (u1 u2:Value) (n:Net) (k:Nat) (t:Int) (w:World) (h:Rdt w (flt 4 fibE n.fs) u2) (h1:∃a m c,u1= .slice a m c) (hk:k<n.fs.length):
 Calls Tryz.prog 232 #[.agg #[u1,u2],.int .i64 k,.int .i64 t] w fun e w'=>e= .returned (.int .i64 (othE (fbA n k) t))∧Below w.heap.size w w':=by
 obtain⟨a1,m1,c1,rfl⟩:=h1
 obtain⟨a2,m2,c2,rfl,HN2,hc2,hm2,ha2⟩:=ξC (m:=4) (enc:=fibE) (fun _=>rfl) (by omega) nilB h
 have hk2:k<m2:=by have:=HN2.out;omega
 obtain⟨b,off,rfl,hbs,hcs⟩:=ha2 (by omega)
 obtain⟨bx,bc,-,-⟩:=ξD w #[.slice a1 m1 c1,.slice (some ⟨b,off,none⟩) m2 c2] 35
 have q0:=bc 0 _ rfl
 have q1:=bc 1 _ rfl
 have HBX:=ξh bx
 have e0:=(bx.cell (p:=⟨b,off+k*4+0,none⟩) hbs).trans (hcs k hk2 0 _ rfl)
 have e1:=(bx.cell (p:=⟨b,off+k*4+1,none⟩) hbs).trans (hcs k hk2 1 _ rfl)
 have e2:=(bx.cell (p:=⟨b,off+k*4+2,none⟩) hbs).trans (hcs k hk2 2 _ rfl)
 have e3:=(bx.cell (p:=⟨b,off+k*4+3,none⟩) hbs).trans (hcs k hk2 3 _ rfl)
 simp only[Nat.add_zero] at e0
 have hkI:(k:Int)<(m2:Int):=by omega
 unfold fbA
 clear hcs bc bx ha2 h hk
 generalize n.fs[k]?.getD nilB=f at *
 have HA:=ξh (@othE_a f t)
 have HB:=ξh (@othE_b f t)
 have HN:=ξh (@othE_no f t)
 have HBY:=ξh (fun(w1:World)=>(ξD w1 #[.int .i64 f.a,.int .i64 f.b,.int .i64 f.l,.int .i64 f.r] 146).1)
 generalize othE f t=o at *
 go_enter Tryz.func232,Tryz.ntmps232
 by_cases h1:t=f.a
 · have HE:=ξh (HA.out h1)
   have b1:(t==f.a)=true:=by simp[h1]
   have b2:decide (t=f.a)=true:=by simp[h1]
   clear h1
   go_wp2
   go_ret
   exact⟨by rw[HE.out];rfl,HBX.trans ((HBY.out _).mono HBX.size)⟩
 have b1:(t==f.a)=false:=by simp[h1]
 have b2:decide (t=f.a)=false:=by simp[h1]
 by_cases h2:t=f.b
 · have HE:=ξh (HB.out h1 h2)
   have b3:(t==f.b)=true:=by simp[h2]
   have b4:decide (t=f.b)=true:=by simp[h2]
   clear h1 h2
   go_wp2
   go_ret
   exact⟨by rw[HE.out];rfl,HBX.trans ((HBY.out _).mono HBX.size)⟩
 have b3:(t==f.b)=false:=by simp[h2]
 have b4:decide (t=f.b)=false:=by simp[h2]
 have HE:=ξh (HN.out h1 h2)
 clear h1 h2
 go_wp2
 go_ret
 exact⟨by rw[HE.out];rfl,HBX.trans ((HBY.out _).mono HBX.size)⟩
theorem ξbM:∀(m:Nat) {xs:List Int},xs.Nodup→(∀x∈xs,0≤x∧x<(m:Int))→xs.length≤m
 | 0,xs,_,h=>by
   cases xs with
   | nil=>simp
   | cons x xs=>have:=h x (by simp);omega
 | m+1,xs,hn,h=>by
   have h2:∀x∈xs.erase (m:Int),0≤x∧x<(m:Int):=fun x hx=>by
    have hm:=(List.Nodup.mem_erase_iff hn).1 hx
    have:=h x hm.2
    omega
   have:=ξbM m (hn.erase _) h2
   by_cases hm:(m:Int)∈xs
   · rw[List.length_erase_of_mem hm] at this;omega
   · rw[List.erase_of_not_mem hm] at this;omega
theorem cloneI_any (v:Value) (xs:List Int) (w:World) (h:Rd w v xs) (h0:0<xs.length) (hl:xs.length≤1000000):
 Calls Tryz.prog 239 #[v] w fun e w'=>∃v',e= .returned v'∧Own w' w.heap.size v' xs∧Below w.heap.size w w':=by
 have hrd:=h.belowAll (((ξb _ _).alloc (ξr _) _:Below w.heap.size w (w.alloc (.cells #[] 3))))
 obtain⟨a,cap,n,HX,rfl,_,_,ha⟩:=h.opn
 obtain⟨b,off,rfl,_,_⟩:=ha (by rw[←HX.out];exact h0)
 have hn:n≤1000000:=by rw[←HX.out];exact hl
 have HC:=ξh (fun j u (hu:(ints xs)[j]?= some u)=>hrd.cellsOf _ rfl j u hu)
 have hnil:∀w:World,(binOp .eql 58 (.slice (some ⟨b,off,none⟩) n cap) (.slice none 0 0)).run Tryz.prog w= .ok (.bool false) w:=fun _=>rfl
 go_enter Tryz.func239,Tryz.ntmps239
 go_wp2_with (at_builtin;refine wpList_catG rfl (.tmp 5) (.tmp 6) 58 3 rfl Tryz.underlying58 (.int .i64 0) 1 8 Tryz.infoInt rfl (by decide) w.heap.size (.slice (some ⟨w.heap.size,0,none⟩) 0 0) 0 [] (by rfl) (World.ownsRow_made w #[] 0 (ξr _) (ξu _) (by simp)) (some ⟨b,off,none⟩) n cap (ints xs) (by rfl) (by simp[ints,HX.out]) (fun e=>by cases e) (fun ad e j u hu=>by cases e;exact HC.out j u hu) (fun u hu=>by obtain⟨z,-,rfl⟩:=List.mem_map.1 hu;rfl) (by unfold maxLen;omega) (by omega) (by simp) ?_;intro v' w1 hown1 hgrow1 hl1)
 go_ret
 exact⟨_,rfl,ξa4 (by rw[Nat.zero_add,←HX.out] at hown1;exact hown1),((ξb _ _).alloc (ξr _) _).grown hgrow1 (by simp) (fun k hk=>by have e:w.heap.size=k:=(by simpa[Value.ownBlock] using hk);exact Nat.le_of_eq e)⟩
def SeenM (M:Nat) (seen:List Int):Prop:=M<256∧ ∀j:Nat,j<8→(M.testBit j=true↔(j:Int)∈seen)
theorem SeenM.next {M:Nat} {seen:List Int} {k:Nat} (h:SeenM M seen) (hk:k<8):SeenM (M ||| 2 ^ k) (seen++[(k:Int)]):=by
 have hp:2 ^ k<2 ^ 8:=Nat.pow_lt_pow_right (by omega) hk
 refine⟨or_lt (k:=8) h.1 hp,fun j hj=> ?_⟩
 rw[Nat.testBit_or,Bool.or_eq_true,h.2 j hj,List.mem_append,List.mem_singleton,Nat.testBit_two_pow,decide_eq_true_eq]
 exact or_congr Iff.rfl (by omega)
def ExtQ (base q0 q1 q2 q3 q4:Nat) (st:Int) (L:List (List Int)) (v:Value) (ps:List (List Int × Value)) (w:World) (e:Ending) (w':World):Prop:=
 e= .returned (.tuple #[])∧ ∃v' ps',RbS w' base q0 q1 q2 q3 q4 st v' ps'∧ps'.map Prod.fst=ps.map Prod.fst++L∧Mv (TQ q1 v) (TQ q1 v') w w'
structure ExtA (wA:World) (base q0 q1 q2 q3 q4:Nat) (fr tn:Int) (u1 u2:Value) (n:Net):Prop where
 net:Rdt wA (flt 4 fibE n.fs) u2
 u1s:∃a m c,u1= .slice a m c
 fl:n.fs.length≤14
 nl:n.ns.length≤8
 ends:∀i,i<n.fs.length→0≤(fbA n i).a∧(fbA n i).a<n.ns.length∧0≤(fbA n i).b∧(fbA n i).b<n.ns.length
 ne:q0≠q1∧q2≠q1∧q3≠q1∧q4≠q1
 lo:wA.heap.size≤base∧wA.heap.size≤q1
structure ExtP (wA w:World) (base q0 q1 q2 q3 q4:Nat) (fr tn:Int) (u1 u2:Value) (n:Net) (f:Nat) (t:Int) (seen:List Int) (M:Nat) (vl:Value) (fb:List Int) (v:Value) (ps:List (List Int × Value)):Prop where
 env:RbE w q0 q1 q2 q3 q4 fr tn u1 u2
 sta:RbS w base q0 q1 q2 q3 q4 fr v ps
 bel:Below wA.heap.size wA w
 own:Own w 0 vl fb
 bas:base≤w.heap.size
 apt:∀g,vl.ownBlock=some g→ ¬TQ q1 v g
 fbl:fb.length+1=seen.length
 fue:f+seen.length=n.ns.length+2
 nod:seen.Nodup
 rng:∀s∈seen,0≤s∧s<n.ns.length
 msk:SeenM M seen
 tin:0≤t∧t<n.ns.length
 end_:t=tn→0<fb.length
 cap:ps.length+(extR n tn f t seen fb).length≤1000000000000
theorem ExtA.th {wA:World} {base q0 q1 q2 q3 q4:Nat} {fr tn:Int} {u1 u2:Value} {n:Net} (h:ExtA wA base q0 q1 q2 q3 q4 fr tn u1 u2 n) {k:Nat} (hk:k<n.fs.length) (t:Int): -1≤othE (fbA n k) t∧othE (fbA n k) t<n.ns.length:=by
 have:=h.ends k hk
 unfold othE
 split
 · omega
 · split <;> omega
theorem extEnd_any {wA w:World} {base q0 q1 q2 q3 q4:Nat} {fr tn:Int} {u1 u2:Value} {n:Net} {f:Nat} {t:Int} {seen:List Int} {M:Nat} {vl:Value} {fb:List Int} {v:Value} {ps:List (List Int × Value)} (hA:ExtA wA base q0 q1 q2 q3 q4 fr tn u1 u2 n) (h:ExtP wA w base q0 q1 q2 q3 q4 fr tn u1 u2 n (f+1) t seen M vl fb v ps) (ht:t=tn):
 Calls Tryz.prog 238 #[.int .i64 t,.int .i64 M,vl,ptr q0,ptr q1,ptr q2,ptr q3,ptr q4] w (ExtQ base q0 q1 q2 q3 q4 fr [fb] v ps w):=by
 obtain⟨NP,hNP⟩:∃NP,NP=ExtQ base q0 q1 q2 q3 q4 fr [fb] v ps w:=⟨_,rfl⟩
 rw[←hNP]
 have HCL:=ξh (fun w' (hb:Below w.heap.size w w')=>cloneI_any vl fb w' (h.own.rd.belowAll hb) (h.end_ ht) (by have:=h.fbl;have:=h.fue;have:=hA.nl;omega))
 have HPU:=ξh (fun(W2 W3:World) (v' vc:Value) (lo:Nat) hb hr hg hl hc hlo=>RbS.push (W2:=W2) (W3:=W3) (v':=v') (vc:=vc) (lo:=lo) (fb:=fb) h.sta ⟨ξd _ _ h.env.c0,ξd _ _ h.env.c2,ξd _ _ h.env.c3,ξd _ _ h.env.c4⟩ hb hr hg hl hc hlo)
 have e0:=h.env.c0
 have HSTA:=ξh h.sta
 have HENV:=ξh h.env
 have HRL:=ξh (fun g e=>(h.sta.row.lt g e))
 have hps:ps.length<1000000000000:=by
  have:=h.cap
  rw[extR,if_pos ht] at this
  simp at this;omega
 have hq1:q1<w.heap.size:=(ξa h.sta.box).1
 have htb:(t==tn)=true:=by simp[ht]
 have htd:decide (t=tn)=true:=by simp[ht]
 obtain⟨a5,m5,c5,rfl⟩:=ξag h.own
 obtain⟨av,cv,rfl⟩:=rowf h.sta.row
 have HSS:=ξh (fun(w':World) (hb:Below w.heap.size w w')=>show w'.cell? ⟨q1,0,none⟩=some (.slice av ps.length cv)∧w'.cell? ⟨q2,0,none⟩=some (.int .i64 fr) from
  ⟨(hb.cell (p:=⟨q1,0,none⟩) hq1).trans (blkc HSTA.box rfl),(hb.cell (p:=⟨q2,0,none⟩) (ξd _ _ HENV.c2)).trans HENV.c2⟩)
 have HRW:=ξh (fun(w':World) (hb:Below w.heap.size w w')=>ξN HSTA.row hb)
 have HBS:=ξh h.bas
 generalize hm:ps.length=m at *
 have HM:=ξh hm
 have HNP:=ξh hNP
 clear h ht hm hNP
 go_enter Tryz.func238,Tryz.ntmps238
 go_upto_region 1 with fail
 refine ξH [0,1,2,3,4,5,6] (S:=fun w'=>w'.cell? ⟨q1,0,none⟩=some (.slice av m cv)∧w'.cell? ⟨q2,0,none⟩=some (.int .i64 fr)) (by kernel_rfl) (HSS.out _ (ξb _ _).drew) (fun hH=> ?_)
 refine hlF 0 rfl hH ?_
 try simp only[Act.put,hlA,hlB,hlC]
 refine hlF 1 rfl hH ?_
 try simp only[Act.put,hlA,hlB,hlC]
 refine hlF 2 rfl hH ?_
 try simp only[Act.put,hlA,hlB,hlC]
 refine ξB (rs:=[3]) (by kernel_rfl) (by simp) ?_
 refine AllReadyL.cons rfl (fun KK hKK=> ?_) AllReadyL.nil
 go_simp
 go_at_call 239
 refine(HCL.out _ (ξb _ _).drew).mono ?_
 rintro e w20 ⟨v20,rfl,o20,b20⟩
 have B20:Below w.heap.size w w20:=((ξb w.heap.size w).drew).trans (b20.mono (by simp))
 obtain⟨a20,n20,c20,rfl⟩:=ξag o20
 refine hKK.out _ _ (HSS.out _ B20) (fun hH=> ?_)
 clear hKK KK
 try simp only[Act.put,hlA,hlB,hlC]
 refine hlF 4 rfl hH ?_
 try simp only[Act.put,hlA,hlB,hlC]
 refine ξB (rs:=[5]) (by kernel_rfl) (by simp) ?_
 refine AllReadyL.cons rfl (fun KK hKK=> ?_) AllReadyL.nil
 go_simp
 have B22:=B20.alloc B20.size (.cells #[.int .i64 fr,.slice a20 n20 c20] 82)
 have o22:=o20.belowAll ((ξb w20.heap.size w20).alloc (ξr _) (.cells #[.int .i64 fr,.slice a20 n20 c20] 82))
 refine hKK.out _ _ (HSS.out _ B22) (fun hH=> ?_)
 clear hKK KK
 try simp only[Act.put,hlA,hlB,hlC]
 refine ξG 6 rfl (by kernel_rfl) (by kernel_rfl) (fun KK hKK=> ?_)
 refine step_of_list rfl ?_
 refine wpList_catG rfl (.tmp 17) (.tmp 22) 176 82 rfl Tryz.underlying176 (.agg #[.int .i64 0,.slice none 0 0]) 2 32 Tryz.infoRou rfl (by decide) base (.slice av m cv) m (rcs fr ps) (by rfl) (HRW.out _ B22) (some ⟨w20.heap.size,0,none⟩) 1 1 [.int .i64 fr,.slice a20 n20 c20] (by rfl) rfl (fun e=>by cases e) (ξbf (us:=[.int .i64 fr,.slice a20 n20 c20])) (fun u hu=>by simp at hu;rcases hu with rfl | rfl <;> rfl) (by unfold maxLen;omega) (by omega) (ξs HBS.out B22.size) ?_
 intro v23 w23 o23 g23 l23
 have P23:=ξh (HPU.out _ _ v23 (.slice a20 n20 c20) w.heap.size B22 o23 g23 l23 (o22.mono (by simp)) (ξr _))
 have x23:w23.heap[q1]?= some (.cells #[.slice av m cv] 176 (0,0)):=by rw[g23.block q1 (ξq hq1 B22.size) (fun e=>(HSTA.vq q1 e.symm).2.1 rfl),B22.block q1 hq1];exact HSTA.box
 unfold wpList
 refine⟨rfl,?_⟩
 refine hKK.out _ _ ?_
 clear hKK KK
 try simp only[Act.put,hlA,hlB,hlC]
 obtain⟨a23,c23,rfl⟩:=rowf o23
 have y23:=blkc x23 (j:=0) rfl
 have f23:w23.frozen? ⟨q1,0,none⟩=false:=by simp only[World.frozen?,x23];rfl
 refine ξG 7 rfl (by kernel_rfl) (by kernel_rfl) (fun KK hKK=> ?_)
 go_simp
 refine hKK.out _ _ ?_
 clear hKK KK
 try simp only[Act.put,hlA,hlB,hlC]
 refine ξS (by kernel_rfl) ?_ _
 rotate_left 1
 clear o23 g23 l23 x23 y23 f23 o22 B22 o20 b20 B20
 go_wp2_with fail
 rw[HNP.out]
 exact bodyPost_ret (v:= .tuple #[]) (by simp[results,Tryz.results238,go_sem]) rfl ⟨rfl,_,ps++[(fb,_)],P23.1,by simp,P23.2⟩
def extI (n:Net) (tn:Int) (f:Nat) (t:Int) (seen fb:List Int) (i:Nat):List (List Int):=if 0≤othE (fbA n i) t∧othE (fbA n i) t ∉ seen then extR n tn f (othE (fbA n i) t) (seen++[othE (fbA n i) t]) (fb++[(i:Int)]) else[]
theorem extR_go {n:Net} {tn t:Int} (h:¬t=tn) (f:Nat) (seen fb:List Int):extR n tn (f+1) t seen fb=(List.range n.fs.length).flatMap (extI n tn f t seen fb):=by rw[extR,if_neg h];rfl
theorem ξc2 {α:Type} (g:Nat→List α) (k:Nat):(List.range (k+1)).flatMap g=(List.range k).flatMap g++g k:=by rw[List.range_succ,List.flatMap_append];simp
theorem range_len_le {α:Type} (g:Nat→List α) {k m:Nat} (h:k≤m):((List.range k).flatMap g).length≤((List.range m).flatMap g).length:=by
 induction m with
 | zero=>obtain rfl:k=0:=by omega
         exact ξr _
 | succ m ih=>
   by_cases e:k=m+1
   · subst e;exact ξr _
   · have:=ih (by omega)
     rw[ξc2,ξk];omega
theorem extGo_any {wA:World} {base q0 q1 q2 q3 q4:Nat} {fr tn:Int} {u1 u2:Value} {n:Net} (hA:ExtA wA base q0 q1 q2 q3 q4 fr tn u1 u2 n) {f:Nat}
 (IH:∀(t:Int) (seen:List Int) (M:Nat) (vl:Value) (fb:List Int) (v:Value) (ps:List (List Int × Value)) (w:World),ExtP wA w base q0 q1 q2 q3 q4 fr tn u1 u2 n f t seen M vl fb v ps→Calls Tryz.prog 238 #[.int .i64 t,.int .i64 M,vl,ptr q0,ptr q1,ptr q2,ptr q3,ptr q4] w (ExtQ base q0 q1 q2 q3 q4 fr (extR n tn f t seen fb) v ps w))
 {t:Int} {seen:List Int} {M:Nat} {vl:Value} {fb:List Int} {v:Value} {ps:List (List Int × Value)} {w:World} (h:ExtP wA w base q0 q1 q2 q3 q4 fr tn u1 u2 n (f+1) t seen M vl fb v ps) (ht:¬t=tn):
 Calls Tryz.prog 238 #[.int .i64 t,.int .i64 M,vl,ptr q0,ptr q1,ptr q2,ptr q3,ptr q4] w (ExtQ base q0 q1 q2 q3 q4 fr (extR n tn (f+1) t seen fb) v ps w):=by
 obtain⟨NP,hNP⟩:∃NP,NP=ExtQ base q0 q1 q2 q3 q4 fr (extR n tn (f+1) t seen fb) v ps w:=⟨_,rfl⟩
 rw[←hNP]
 rw[extR_go ht] at hNP
 have hcap:=h.cap
 rw[extR_go ht] at hcap
 obtain⟨aN,mN,cN,hu1⟩:=hA.u1s
 obtain⟨a2,m2,c2,hu2,HN2,hc2,hm2,ha2⟩:=ξC (m:=4) (enc:=fibE) (fun _=>rfl) (by omega) nilB hA.net
 obtain⟨a5,m5,c5,rfl⟩:=ξag h.own
 subst hu1
 subst hu2
 have HA2:=ξh ha2
 have HP:=ξh h
 have HH:=ξh hA
 have HIH:=ξh IH
 have HNP:=ξh hNP
 have e0:=h.env.c0
 have q5:=h.env.c5
 have HCAP:=ξh hcap
 have HE:=ξh (fun k (hk:k<m2)=>hA.th (by rw[HN2.out];exact hk) t)
 have HST:=ξh (show∃ps',RbS w base q0 q1 q2 q3 q4 fr v ps'∧ps'.map Prod.fst=ps.map Prod.fst++(List.range 0).flatMap (extI n tn f t seen fb)∧Mv (TQ q1 v) (TQ q1 v) w w from⟨ps,h.sta,by simp,Mv.refl _ _⟩)
 have hm14:m2≤14:=by rw[←HN2.out];exact hA.fl
 have htb:(t==tn)=false:=by simpa using ht
 have htd:decide (t=tn)=false:=by simpa using ht
 rw[HN2.out] at HNP HCAP
 have HNN:=ξh (show n.ns.length≤8 from hA.nl)
 have HML:=ξh (show M<16777216 from by have:=h.msk.1;omega)
 clear h hA IH hNP hcap ha2 ht
 go_enter Tryz.func238,Tryz.ntmps238
 go_wp2
 go_loopw [11,12,13,27] (fun _ _ _ c wr=>∃(k:Nat) (v':Value),k≤m2∧c= .int .i64 k∧Hid (∃ps',RbS wr base q0 q1 q2 q3 q4 fr v' ps'∧ps'.map Prod.fst=ps.map Prod.fst++(List.range k).flatMap (extI n tn f t seen fb)∧Mv (TQ q1 v) (TQ q1 v') w wr)) (fun _ _ _ c _=>m2-(intOf c).toNat)
 case atStart=>exact⟨0,v,ξu _,rfl,HST⟩
 case round=>
  obtain⟨k,v',hk,rfl,HD⟩:=hrel
  by_cases hlt:k<m2
  · have hltI:(k:Int)<(m2:Int):=by omega
    obtain⟨b2,off2,rfl,hbs,hcs⟩:=HA2.out (by omega)
    obtain⟨ps',hS,hM,hV⟩:=HD.out
    have hBW:Below wA.heap.size wA wr:=hV.below HP.bel HP.bel.size (fun g hg=>by
     rcases hg with rfl | hg
     · exact HH.lo.2
     · have:=(HP.sta.row.lt g hg).1
       have:=HH.lo.1
       omega)
    have e1:wr.cell? ⟨b2,off2+k*4,none⟩=_:=(hBW.cell (p:=⟨b2,off2+k*4+0,none⟩) hbs).trans (hcs k hlt 0 _ rfl)
    have e2:=(hBW.cell (p:=⟨b2,off2+k*4+1,none⟩) hbs).trans (hcs k hlt 1 _ rfl)
    have e3:=(hBW.cell (p:=⟨b2,off2+k*4+2,none⟩) hbs).trans (hcs k hlt 2 _ rfl)
    have e4:=(hBW.cell (p:=⟨b2,off2+k*4+3,none⟩) hbs).trans (hcs k hlt 3 _ rfl)
    have HX:=ξh (HE.out k hlt)
    have HOE:=ξh (fun w'=>ξcj (fbA n k) t w')
    have HEI:=ξh (show extI n tn f t seen fb k=if 0≤othE (fbA n k) t∧othE (fbA n k) t ∉ seen then extR n tn f (othE (fbA n k) t) (seen++[othE (fbA n k) t]) (fb++[(k:Int)]) else[] from rfl)
    have HS:=ξh hS
    have HMP:=ξh hM
    have HMV:=ξh hV
    have HBW:=ξh hBW
    clear hcs hS hM hV hBW
    unfold fibV fbA at HOE
    unfold fbA at HX HEI
    generalize n.fs[k]?.getD nilB=ff at *
    generalize othE ff t=o at *
    generalize hfa:ff.a=fa at *
    generalize hfl:ff.b=fbb at *
    generalize hfc:ff.l=fl at *
    generalize hfr:ff.r=frr at *
    clear hfa hfl hfc hfr
    go_wp2_with fail
    refine(HOE.out _).mono ?_
    rintro e w2 ⟨rfl,b2'⟩
    have HB:=ξh (((ξb wr.heap.size wr).alloc (ξr _) (.cells #[.int .i64 fa,.int .i64 fbb,.int .i64 fl,.int .i64 frr] 146)).trans (b2'.mono (by simp)))
    clear b2' e1 e2 e3 e4 hbs
    have HRG:=ξh (ξc2 (extI n tn f t seen fb) k)
    by_cases ho:0≤o
    · obtain⟨c,rfl⟩:=Int.eq_ofNat_of_zero_le ho
      have hc8:c<8:=by have:=HX.out;have:=HNN.out;omega
      have HMK:=ξh (HP.msk.2 c hc8)
      have hod:decide ((c:Int)≥0)=true:=ξt (by omega)
      by_cases hmem:(c:Int)∈seen
      · have hbit:=bit_on HML.out (HMK.2 hmem)
        have HEX:=ξh (HEI.trans (if_neg (fun hh=>hh.2 hmem)))
        clear hmem ho
        go_wp2
        go_roundw
        case rel=>exact⟨k+1,v',by omega,by go_num,ps',HS.below HB.out,by rw[HRG.out,HEX.out,List.append_nil];exact HMP.out,HMV.trans (Mv.of_below HB.out)⟩
        case measure=>simp[intOf];omega
      · have hbit:=bit_off HML.out (by cases hq:M.testBit c with | false=>rfl | true=>exact absurd (HMK.1 hq) hmem)
        have HEX:=ξh (HEI.trans (if_pos ⟨ho,hmem⟩))
        have HMEM:=ξh hmem
        obtain⟨pw,hpw⟩:∃pw,pw=2 ^ c:=⟨_,rfl⟩
        have hsh:=shl_one (k:=c) (by omega)
        rw[←hpw] at hsh
        have hpl:pw<16777216:=by rw[hpw];exact pow_lt24 (by omega)
        have HSH2:=ξh (show IntKind.i64.wrap ((2:Int) ^ c)=(pw:Int) from by
         rw[show((2:Int) ^ c)=(pw:Int) by rw[hpw];simp,ξi _ (by omega)])
        have hor:=ξb6 HML.out hpl
        have HPW:=ξh hpw
        obtain⟨M2,hM2⟩:∃M2,M2=M ||| pw:=⟨_,rfl⟩
        rw[←hM2] at hor
        have HM2:=ξh hM2
        have HFB:=ξh (show fb.length=m5∧m5≤c5∧m5≤9∧(a5=none→m5=0∧m5=0)∧ ∀b,a5=some b→ ∀j u,(ints fb)[j]?= some u→w.cell? (b.add j)=some u from by
         have hrd:=HP.own.rd
         obtain⟨a',cap',hv,g1,g2,g3⟩:=ξaI hrd
         simp only[Value.slice.injEq] at hv
         obtain⟨rfl,rfl,rfl⟩:=hv
         have h1:=HP.fbl
         have h2:=HP.fue
         have h3:=HNN.out
         exact⟨rfl,g1,by omega,fun e=>⟨(g2 e).1,(g2 e).1⟩,g3⟩)
        have HCC:=ξh (fun(w':World) (hb:Below w2.heap.size w2 w')=>show∀b,a5=some b→ ∀j u,(ints fb)[j]?= some u→w'.cell? (b.add j)=some u from by
         have hrd:=((HP.own.rd.keptM HMV.out HP.apt).belowAll HB.out).belowAll hb
         exact hrd.cellsOf)
        have hm59:m5≤9:=HFB.2.2.1
        have hm5c:m5≤c5:=HFB.2.1
        have hm5I:(m5:Int)≤(c5:Int):=by omega
        have HEN:=ξh ((HP.env.mv HMV.out HP.sta.vq HH.ne).below HB.out)
        have hq4:=ξd _ _ HEN.c4
        have HS4:=ξh (fun(w':World) (hb:Below w2.heap.size w2 w')=>show w'.cell? ⟨q4,0,none⟩=_ from(hb.cell (p:=⟨q4,0,none⟩) hq4).trans HEN.c4)
        clear hpw hM2 hmem ho
        obtain⟨i0,hi,hz0,hz1,hz2⟩:=info_parts Tryz.infoInt
        go_wp2_with fail
        refine ξH [0,1,2,3,4,5,6,7,8,9,10,11,12,13,14,15] (S:=fun w'=>w'.cell? ⟨q4,0,none⟩=some (.func (.func 238) #[] #[ptr q0,ptr q1,ptr q2,ptr q3,ptr q4])) (by kernel_rfl) (HS4.out _ (ξb _ _).drew) (fun hH=> ?_)
        refine hlF 0 rfl hH ?_
        try simp only[Act.put,hlA,hlB,hlC]
        refine hlF 1 rfl hH ?_
        try simp only[Act.put,hlA,hlB,hlC]
        refine hlF 2 rfl hH ?_
        try simp only[Act.put,hlA,hlB,hlC]
        refine hlF 3 rfl hH ?_
        try simp only[Act.put,hlA,hlB,hlC]
        refine hlF 4 rfl hH ?_
        try simp only[Act.put,hlA,hlB,hlC]
        refine hlF 5 rfl hH ?_
        try simp only[Act.put,hlA,hlB,hlC]
        refine hlF 6 rfl hH ?_
        try simp only[Act.put,hlA,hlB,hlC]
        refine hlF 7 rfl hH ?_
        try simp only[Act.put,hlA,hlB,hlC]
        refine hlF 8 rfl hH ?_
        try simp only[Act.put,hlA,hlB,hlC]
        refine hlF 9 rfl hH ?_
        try simp only[Act.put,hlA,hlB,hlC]
        refine hlF 10 rfl hH ?_
        try simp only[Act.put,hlA,hlB,hlC]
        refine hlF 11 rfl hH ?_
        try simp only[Act.put,hlA,hlB,hlC]
        refine hlF 12 rfl hH ?_
        try simp only[Act.put,hlA,hlB,hlC]
        refine ξB (rs:=[13]) (by kernel_rfl) (by simp) ?_
        refine AllReadyL.cons rfl (fun KK hKK=> ?_) AllReadyL.nil
        go_simp
        have B57:Below w2.heap.size w2 (w2.drew.alloc (.cells #[.int .i64 (k:Int)] 3)):=((ξb w2.heap.size w2).drew).alloc (by simp) _
        refine hKK.out _ _ (HS4.out _ B57) (fun hH=> ?_)
        clear hKK KK
        try simp only[Act.put,hlA,hlB,hlC]
        refine ξB (rs:=[14]) (by kernel_rfl) (by simp) ?_
        refine AllReadyL.cons rfl (fun KK hKK=> ?_) AllReadyL.nil
        refine step_of_list rfl ?_
        refine wpList_append_grows _ rfl (.tmp 55) (.tmp 57) 58 rfl 3 i0 (.int .i64 0) 1 8 Tryz.underlying58 hi hz0 hz1 hz2 rfl (by decide) a5 m5 m5 (ints fb) rfl HFB.2.2.2.1 (by rw[←HFB.1];simp[ints]) (HCC.out _ B57) ⟨w2.drew.heap.size,0,none⟩ 1 1 [.int .i64 (k:Int)] rfl rfl (ξbf (us:=[.int .i64 (k:Int)]) _ rfl) (by simp[Value.oneCell']) (by omega) (by unfold maxLen;omega) (by omega) ?_
        intro v58 w58 o58 g58
        have B58:Below w2.heap.size w2 w58:=Below.grown B57 g58 B57.size (fun q hq=>by cases hq)
        unfold wpList
        refine⟨rfl,?_⟩
        refine hKK.out _ _ (HS4.out _ B58) (fun hH=> ?_)
        clear hKK KK
        try simp only[Act.put,hlA,hlB,hlC]
        refine ξG 15 rfl (by kernel_rfl) (by kernel_rfl) (fun KK hKK=> ?_)
        go_simp
        have o59:w58.ownsRow (w2.drew.alloc (.cells #[.int .i64 (k:Int)] 3)).heap.size 3 1 v58 (fb++[(k:Int)]).length (ints (fb++[(k:Int)])):=by
         rw[show(fb++[(k:Int)]).length=m5+1 by rw[ξk,HFB.1];rfl,show ints (fb++[(k:Int)])=ints fb++[.int .i64 (k:Int)] by simp[ints]]
         exact o58
        have hz2:=HB.size
        have HPC:=ξh (show ExtP wA w58 base q0 q1 q2 q3 q4 fr tn (.slice aN mN cN) (.slice (some ⟨b2,off2,none⟩) m2 c2) n f (c:Int) (seen++[(c:Int)]) M2 v58 (fb++[(k:Int)]) v' ps' from
         {env:=HEN.below B58
          sta:=(HS.below HB.out).below B58
          bel:=(HBW.trans (HB.mono HBW.size)).trans (B58.mono (ξs HBW.size hz2))
          own:=(ξa4 o59).mono (ξu _)
          bas:=ξs HP.bas (ξs HMV.size (ξs hz2 B58.size))
          apt:=fun g hg hT=>by
           have h1:=(o59.lt g hg).1
           have h2:w2.heap.size≤g:=by simp at h1;omega
           rcases hT with hT | hT
           · have:=(ξa HS.box).1;omega
           · have:=(HS.row.lt g hT).2;omega
          fbl:=by have:=HP.fbl;rw[ξk,ξk];simp only[List.length_singleton];omega
          fue:=by have:=HP.fue;rw[ξk];simp only[List.length_singleton];omega
          nod:=List.nodup_append.2 ⟨HP.nod,by simp,fun x hx y hy e=>by rw[List.mem_singleton.1 hy] at e;exact HMEM.out (e▸hx)⟩
          rng:=fun x hx=>by
           rcases List.mem_append.1 hx with hx | hx
           · exact HP.rng x hx
           · rw[List.mem_singleton.1 hx];have:=HX.out;omega
          msk:=by rw[HM2.out,HPW.out];exact HP.msk.next hc8
          tin:=by have:=HX.out;omega
          end_:=fun _=>by rw[ξk];simp
          cap:=by
           have h1:=HCAP.out
           have h2:=congrArg List.length HMP.out
           have h3:=range_len_le (extI n tn f t seen fb) (show k+1≤m2 from hlt)
           rw[HRG.out,HEX.out,ξk] at h3
           rw[ξk,List.length_map,List.length_map] at h2
           omega})
        rw[HSH2.out,hor]
        refine(HIH.out _ _ _ _ _ _ _ _ HPC.out).mono ?_
        rintro e w9 ⟨rfl,v9,ps9,s9,m9,mv9⟩
        refine hKK.out _ _ ?_
        clear hKK KK
        try simp only[Act.put,hlA,hlB,hlC]
        refine ξS (by kernel_rfl) ?_ _
        rotate_left 1
        have H9:=ξh (show∃ps',RbS w9 base q0 q1 q2 q3 q4 fr v9 ps'∧ps'.map Prod.fst=ps.map Prod.fst++(List.range (k+1)).flatMap (extI n tn f t seen fb)∧Mv (TQ q1 v) (TQ q1 v9) w w9 from
         ⟨ps9,s9,by rw[m9,HMP.out,HRG.out,HEX.out,List.append_assoc],HMV.trans ((Mv.of_below HB.out).trans ((Mv.of_below B58).trans mv9))⟩)
        clear s9 m9 mv9 o58 o59 g58 B58 B57 HPC
        go_wp2_with fail
        go_roundw
        case rel=>exact⟨k+1,v9,by omega,by go_num,H9⟩
        case measure=>simp[intOf];omega
    · have hod:decide (o≥0)=false:=ξf ho
      have HEX:=ξh (HEI.trans (if_neg (fun hh=>ho hh.1)))
      clear ho
      go_wp2
      go_roundw
      case rel=>exact⟨k+1,v',by omega,by go_num,ps',HS.below HB.out,by rw[HRG.out,HEX.out,List.append_nil];exact HMP.out,HMV.trans (Mv.of_below HB.out)⟩
      case measure=>simp[intOf];omega
  · obtain rfl:k=m2:=by omega
    go_wp2
    rw[HNP.out]
    obtain⟨ps',hS,hM,hV⟩:=HD.out
    go_end0
    exact⟨rfl,v',ps',hS,hM,hV⟩
theorem ext_any {wA:World} {base q0 q1 q2 q3 q4:Nat} {fr tn:Int} {u1 u2:Value} {n:Net} (hA:ExtA wA base q0 q1 q2 q3 q4 fr tn u1 u2 n):∀(f:Nat) (t:Int) (seen:List Int) (M:Nat) (vl:Value) (fb:List Int) (v:Value) (ps:List (List Int × Value)) (w:World),ExtP wA w base q0 q1 q2 q3 q4 fr tn u1 u2 n f t seen M vl fb v ps→Calls Tryz.prog 238 #[.int .i64 t,.int .i64 M,vl,ptr q0,ptr q1,ptr q2,ptr q3,ptr q4] w (ExtQ base q0 q1 q2 q3 q4 fr (extR n tn f t seen fb) v ps w)
 | 0,t,seen,M,vl,fb,v,ps,w,h=>by
   have h1:=h.fue
   have h2:=ξbM n.ns.length h.nod h.rng
   omega
 | f+1,t,seen,M,vl,fb,v,ps,w,h=>by
   by_cases ht:t=tn
   · rw[show extR n tn (f+1) t seen fb=[fb] by rw[extR,if_pos ht]]
     exact extEnd_any hA h ht
   · exact extGo_any hA (fun t seen M vl fb v ps w h=>ext_any hA f t seen M vl fb v ps w h) h ht
/-! ### Lengths -/
theorem fb_at {n:Net} (h:ξL n=true) {k:Nat} (hk:k<n.fs.length):fibOk (fbA n k) n.ns.length=true:=by
 have:=(ξM h).2.2.2.2 k hk
 unfold fbOk at this
 simp only[Bool.and_eq_true] at this
 exact this.1
/-! ### Routes -/
theorem othE_in {n:Net} (h:ξL n=true) {k:Nat} (hk:k<n.fs.length) {t:Int} (ht:¬othE (fbA n k) t<0):0≤othE (fbA n k) t∧othE (fbA n k) t<n.ns.length:=by
 have hp:=ξaM (fb_at h hk)
 unfold othE at ht ⊢
 split
 · omega
 · split
   · omega
   · rename_i h1 h2
     rw[if_neg h1,if_neg h2] at ht
     omega
theorem wlk_facts {n:Net} (h:ξL n=true):∀{xs:List Int} {out:List Int} {t:Int} {nd:List Int},wlk n out t xs=some nd→(∀y∈out,0≤y∧y<n.ns.length)→
 nd.length=out.length+xs.length∧(∀y∈nd,0≤y∧y<n.ns.length)∧(∀x∈xs,0≤x∧x<n.fs.length)
 | [],out,t,nd,hw,ho=>by
   simp only[wlk,Option.some.injEq] at hw
   subst hw
   exact⟨rfl,ho,fun x hx=>by cases hx⟩
 | i::is,out,t,nd,hw,ho=>by
   rw[wlk] at hw
   cases hi:inB i 0 ((n.fs.length:Int)-1)
   · rw[hi] at hw;simp at hw
   · rw[hi] at hw
     simp only[if_true] at hw
     split at hw
     · cases hw
     · rename_i hc
       have hb:=ξO hi
       have hx:=othE_in h (k:=i.toNat) (by omega) (t:=t) (fun e=>hc (.inl e))
       have:=wlk_facts h hw (fun y hy=>by
        rcases List.mem_append.1 hy with h1 | h1
        · exact ho y h1
        · rw[List.mem_singleton.1 h1];exact hx)
       refine⟨by rw[this.1];simp;omega,this.2.1,fun x hx=> ?_⟩
       rcases List.mem_cons.1 hx with rfl | h1
       · omega
       · exact this.2.2 x h1
theorem wlk_head {n:Net} :∀{xs:List Int} {x:Int} {out:List Int} {t:Int} {nd:List Int},wlk n (x::out) t xs=some nd→nd[0]?= some x
 | [],x,out,t,nd,hw=>by
   simp only[wlk,Option.some.injEq] at hw
   subst hw;rfl
 | i::is,x,out,t,nd,hw=>by
   rw[wlk] at hw
   split at hw
   · split at hw
     · cases hw
     · exact wlk_head hw
   · cases hw
theorem rou_facts {n:Net} (h:ξL n=true) {r:Rou} {nd:List Int} (hr:rouN n r=some nd):nd.length=r.fb.length+1∧0≤r.st∧r.st<n.ns.length∧nd[0]?= some r.st∧
 (∀k:Nat,k<nd.length→0≤nd[k]?.getD 0∧nd[k]?.getD 0<n.ns.length)∧(∀k:Nat,k<r.fb.length→0≤r.fb[k]?.getD 0∧r.fb[k]?.getD 0<n.fs.length):=by
 unfold rouN at hr
 split at hr
 · rename_i hc
   simp only[Bool.and_eq_true] at hc
   have hb:=ξO hc.1
   have h1:=wlk_facts h hr (fun y hy=>by rw[List.mem_singleton.1 hy];omega)
   refine⟨by rw[h1.1];simp;omega,by omega,by omega,?_,fun k hk=> ?_,fun k hk=> ?_⟩
   · exact wlk_head hr
   · rw[ξg hk];exact h1.2.1 _ (ξj hk)
   · rw[ξg hk];exact h1.2.2 _ (ξj hk)
 · cases hr
end Go.Proofs.YtofcicomhnkocaaGreat
