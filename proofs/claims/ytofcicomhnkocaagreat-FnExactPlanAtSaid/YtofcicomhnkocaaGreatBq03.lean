/- Joined: XLst XLfb XLnw XDem. -/
import Derived.Test.YtofcicomhnkocaaGreatAls
import Derived.Test.YtofcicomhnkocaaGreatBq02
import Derived.Deep.MidRow
import Derived.Laws.IdiomStrings
import Derived.Test.YtofcicomhnkocaaGreatBq01
import Derived.Deep.AppendLies
import Derived.Deep.DeepFit
import Derived.Deep.DeepMust
import Derived.Deep.LoopGhost
import Derived.Deep.RegionHeld3
import Derived.Deep.Slices
import Derived.Lib.SmallJoins
import Derived.OpenShut
import Derived.StillTailTactics
set_option linter.unusedVariables false
namespace Go.Proofs.YtofcicomhnkocaaGreat
set_option maxHeartbeats 3200000
open Go.RowKit Go.Sort
set_option maxRecDepth 100000
def digE (q:Nat):List UInt8:=if q=0 then[] else digs q
theorem digE_step {q:Nat} (h:0<q):digE q=digE (q/10)++[UInt8.ofNat (48+q%10)]:=by
 unfold digE
 rw[if_neg (by omega)]
 by_cases h1:q<10
 · rw[digs_small h1,if_pos (by omega),Nat.mod_eq_of_lt h1];rfl
 · rw[digs_big h1,if_neg (by omega)]
def mkTx (k:Nat):ByteArray:=mk (109::digs k)
theorem markText_any (k:Nat) (h0:0<k) (hk:k≤4503599627370496) (w:World):
 Calls Tryz.prog 135 #[.int .i64 k] w fun e w'=>e= .returned (.string (mkTx k))∧Below w.heap.size w w':=by
 have HM:=ξh (show mkTx k=mk (109::digE k) by unfold mkTx digE;rw[if_neg (by omega)])
 have hkI:(0:Int)<(k:Int):=by omega
 have hkn:¬(k:Int)≤0:=by omega
 generalize mkTx k=r at *
 go_enter Tryz.func135,Tryz.ntmps135
 go_wp2
 clear hkI hkn
 go_loopw [0,3] (fun x s wr=>∃(q:Nat) (l:List UInt8),q≤k∧x= .int .i64 q∧s= .string (mk l)∧l.length+q≤k∧Hid (digE q++l=digE k)∧Hid (Below w.heap.size w wr)) (fun x _ _=>(intOf x).toNat)
 case atStart=>exact⟨k,[],ξr _,rfl,rfl,by simp,by simp[Hid],ξb _ _⟩
 case round=>
  obtain⟨q,l,hq,rfl,rfl,hl,HD,HB⟩:=hrel
  by_cases h1:0<q
  · have h1I:(0:Int)<(q:Int):=by omega
    have HDS:=ξh (digE_step h1)
    have hq1:(q:Int)/10=((q/10:Nat):Int):=by omega
    have hr1:(q:Int)%10=((q%10:Nat):Int):=by omega
    have hq2:(q:Int).tdiv 10=((q/10:Nat):Int):=by rw[Int.tdiv_eq_ediv_of_nonneg (by omega)];exact hq1
    have hr2:(q:Int).tmod 10=((q%10:Nat):Int):=by rw[Int.tmod_eq_emod_of_nonneg (by omega)];exact hr1
    have hb10:q%10<10:=by omega
    have hadv:q/10<q:=by omega
    generalize q/10=a at *
    generalize q%10=b at *
    have hb:((b:Nat):Int)<10:=by omega
    have hw1:IntKind.i64.wrap (48+(b:Int))=48+(b:Int):=ξi _ (by omega)
    have HU:=ξh (show(UInt8.ofNat (48+b)).toNat=48+b by simp[UInt8.toNat_ofNat'];omega)
    have hw2:IntKind.u8.wrap (48+(b:Int))=(((UInt8.ofNat (48+b)).toNat:Nat):Int):=by rw[HU.out];unfold IntKind.wrap IntKind.bits IntKind.signed;simp;omega
    generalize UInt8.ofNat (48+b)=c at *
    have hcv:(convert 45 9 (.slice (some ⟨wr.heap.size,0,none⟩) 1 1)).run Tryz.prog (wr.alloc (.cells #[.int .u8 (c.toNat:Int)] 5))= .ok (.string ⟨#[c]⟩) (wr.alloc (.cells #[.int .u8 (c.toNat:Int)] 5)):=by
     refine run_convert_bytes_back (P:=Tryz.prog) (wr.alloc (.cells #[.int .u8 (c.toNat:Int)] 5)) 45 9 5 ⟨wr.heap.size,0,none⟩ 1 [c] Tryz.underlying45 Tryz.underlying5 Tryz.underlying9 (fun j hj=> ?_)
     obtain rfl:j=0:=by simpa using hj
     exact blkc (ξn wr (.cells #[.int .u8 (c.toNat:Int)] 5)) (j:=0) rfl
    have hn1:¬9223372036854775807<1+l.length:=by omega
    have HL2:=ξh (show digE a++(c::l)=digE k by rw[←HD.out,HDS.out,List.append_assoc];rfl)
    clear hw1
    go_wp2
    go_roundw
    case rel=>exact⟨a,c::l,by omega,rfl,by rw[show({data:=#[c]} :ByteArray)=mk [c] from rfl,mk_append];rfl,by simp;omega,HL2.out,HB.out.alloc HB.out.size _⟩
    case measure=>simp[intOf];omega
  · obtain rfl:q=0:=by omega
    have hd:=HD.out
    unfold digE at hd
    rw[if_pos rfl,List.nil_append] at hd
    have HE:=ξh (show mk (109::l)=r by rw[HM.out,hd];rfl)
    clear hd HD
    have h00:¬(0:Int)<((0:Nat):Int):=by omega
    have hn2:¬9223372036854775807<1+l.length:=by omega
    go_wp2
    go_ret
    exact⟨by rw[←HE.out,show mk (109::l)=mk [109]++mk l from by rw[mk_append];rfl];rfl,HB.out⟩
/-! ### Sizes, copies, comparisons, marks -/
def totS (ns:List ByteArray):Nat:=(ns.map (·.size)).sum
theorem totS_step {ns:List ByteArray} {k:Nat} (h:k<ns.length):totS (ns.take (k+1))=totS (ns.take k)+(ns[k]?.getD nilS).size:=by
 rw[totS,totS,List.take_add_one,List.map_append,List.sum_append,ξg h];simp
theorem totS_le (ns:List ByteArray) (k:Nat):totS (ns.take k)≤totS ns:=by
 rw[totS,totS]
 conv=>rhs;rw[←List.take_append_drop k ns,List.map_append,List.sum_append]
 omega
theorem totS_mem (ns:List ByteArray) (k:Nat):(ns[k]?.getD nilS).size≤totS ns:=by
 by_cases h:k<ns.length
 · have h1:=totS_step h
   have h2:=totS_le ns (k+1)
   omega
 · rw[List.getElem?_eq_none (by omega)];exact Nat.zero_le _
theorem szStringS_any (v:Value) (ns:List ByteArray) (l:Int) (w:World) (h:Rwt w (flt 1 strE ns) v) (h0:0≤l) (h1:l≤1048576) (hs:∀i:Nat,(ns[i]?.getD nilS).size≤maxLen):
 Calls Tryz.prog 56 #[v,.int .i64 l] w fun e w'=>e= .returned (.int .i64 (if l<(ns.length:Int)+totS ns then -1 else l-((ns.length:Int)+totS ns)))∧w=w':=by
 obtain⟨a,n,cap,rfl,HN,hn,ha⟩:=flt_opnw (m:=1) (enc:=strE) (fun _=>rfl) (by omega) nilS h
 have HT:=ξh (fun k (h:k<ns.length)=>@totS_step ns k h)
 have hal:totS (ns.take ns.length)=totS ns:=by rw[List.take_length]
 have hle:=totS_le ns
 rw[HN.out] at hal ⊢
 have HAL:=ξh hal
 have HLE:=ξh hle
 have HA:=ξh ha
 have HS:=ξh hs
 obtain⟨T,hT⟩:∃T,T=totS ns:=⟨_,rfl⟩
 rw[←hT] at hal hle ⊢
 have HTT:=ξh hT
 obtain⟨r,hr⟩:∃r:Int,r=(if l<(n:Int)+T then -1 else l-((n:Int)+T)):=⟨_,rfl⟩
 rw[←hr]
 have HRL:=ξh (show l<(n:Int)+T→r= -1 from fun h=>by rw[hr,if_pos h])
 have HRG:=ξh (show¬l<(n:Int)+T→r=l-((n:Int)+T) from fun h=>by rw[hr,if_neg h])
 clear hal h ha hT hr hle hs
 by_cases hc:l-n<0
 · have hb:decide (l-n<0)=true:=by simpa using hc
   have HE:=ξh (HRL.out (by omega))
   go_enter Tryz.func56,Tryz.ntmps56
   go_wp2
   go_ret
   exact⟨by rw[HE.out];rfl,rfl⟩
 have hb:decide (l-n<0)=false:=by simpa using hc
 go_enter Tryz.func56,Tryz.ntmps56
 go_wp2
 clear hb
 go_loop [1,5] (fun x i=>∃(k:Nat) (q:Int),k≤n∧i= .int .i64 k∧x= .int .i64 q∧0≤q∧q≤1048576∧Hid ((n:Int)+totS (ns.take k)+q=l)) (fun _ i=>n-(intOf i).toNat)
 case atStart=>exact⟨0,l-n,by omega,rfl,rfl,by omega,by omega,by show(n:Int)+((totS (ns.take 0):Nat):Int)+(l-n)=l;simp[totS];omega⟩
 case round=>
  obtain⟨k,q,hk,rfl,rfl,h2,h3,HR⟩:=hrel
  by_cases hlt:k<n
  · have hltI:(k:Int)<(n:Int):=by omega
    obtain⟨b,off,rfl,hbs,hcs⟩:=HA.out (by omega)
    have hc0:=hcs k hlt 0 _ rfl
    rw[Nat.mul_one,Nat.add_zero] at hc0
    have HTK:=ξh (HT.out k (by rw[HN.out];exact hlt))
    have HLK:=ξh (HLE.out (k+1))
    have hsk:=HS.out k
    clear hcs
    unfold maxLen at hsk
    generalize ns[k]?.getD nilS=s at *
    by_cases hx:q<(s.size:Int)
    · have hb:decide (q-(s.size:Int)<0)=true:=ξt (by omega)
      have HE:=ξh (HRL.out (by have:=HR.out;have:=HTK.out;have:=HLK.out;have:=HTT.out;omega))
      go_wp2
      go_ret
      exact⟨by rw[HE.out];rfl,rfl⟩
    · have hb:decide (q-(s.size:Int)<0)=false:=ξf (by omega)
      go_wp2
      go_round
      case rel=>exact⟨k+1,q-s.size,by omega,by go_num,rfl,by omega,by omega,by show(n:Int)+((totS (ns.take (k+1)):Nat):Int)+(q-s.size)=l;have:=HR.out;rw[HTK.out];omega⟩
      case measure=>simp[intOf];omega
  · obtain rfl:k=n:=by omega
    have HE:=ξh (HRG.out (by have:=HR.out;have:=HAL.out;have:=HTT.out;omega))
    have HE2:=ξh (show q=l-((k:Int)+T) by have:=HR.out;have:=HAL.out;have:=HTT.out;omega)
    go_wp2
    go_ret
    exact⟨by rw[HE.out,←HE2.out];rfl,rfl⟩
theorem Tryz.infoStrS:(Tryz.prog.info? 9).map (fun i=>(i.zero,i.size,i.bytes))=some (some (.string ⟨#[]⟩),1,16):=by kernel_rfl
theorem toStringS_any (v:Value) (zs:List ByteArray) (w:World) (h:Rwt w (flt 1 strE zs) v) (hr:zs.length≤1048576):
 Calls Tryz.prog 60 #[v] w fun e w'=>∃v',e= .returned v'∧Ofr w' w.heap.size (flt 1 strE zs) v'∧Below w.heap.size w w':=by
 obtain⟨i0,hi,hz0,hz1,hz2⟩:=info_parts Tryz.infoStrS
 obtain⟨a,n,cap,rfl,HN,hn,ha⟩:=flt_opnw (m:=1) (enc:=strE) (fun _=>rfl) (by omega) nilS h
 have HA:=ξh ha
 have HL:=ξh (fun k hk=>fillG_len nilS zs n k HN.out hk)
 have HST:=ξh (fun k hk=>fillG_step nilS zs n k HN.out hk)
 have HAL:=ξh (fillG_all nilS zs n HN.out)
 rw[HN.out] at hr
 clear ha h
 go_enter Tryz.func60,Tryz.ntmps60
 go_wp2_with (refine wpList_make_full _ rfl _ _ 22 rfl w.heap.size 9 i0 (.string ⟨#[]⟩) 1 Tryz.underlying22 hi hz0 hz1 _ _ _ _ n rfl rfl rfl rfl (by rw[hz2];omega) (by unfold maxLen;omega) (ξr _) ?_;intro w1 hown1 hgrow1)
 have HO1:=ξh (show Ofr w1 w.heap.size (flt 1 strE (fillG nilS zs n 0)) (.slice (some ⟨w.heap.size,0,none⟩) n n) from by
  rw[fillG_zero]
  exact made_flat (m:=1) (enc:=strE) (fun _=>rfl) (by omega) nilS rfl hown1)
 have HB1:=ξh (show Below w.heap.size w w1 from(ξb _ _).grown hgrow1 (ξr _) (by simp))
 clear hown1 hgrow1
 go_loopw [4] (fun i wr=>∃k:Nat,k≤n∧i= .int .i64 k∧Hid (Ofr wr w.heap.size (flt 1 strE (fillG nilS zs n k)) (.slice (some ⟨w.heap.size,0,none⟩) n n))∧Hid (Below w.heap.size w wr)) (fun i _=>n-(intOf i).toNat)
 case atStart=>exact⟨0,by omega,rfl,HO1.out,HB1.out⟩
 case round=>
  obtain⟨k,hk,rfl,HO,HB⟩:=hrel
  by_cases hlt:k<n
  · obtain⟨b,off,rfl,hbs,hcs⟩:=HA.out (by omega)
    have hltI:(k:Int)<(n:Int):=by omega
    have d0:=(HB.out.cell (p:=⟨b,off+k*1+0,none⟩) hbs).trans (hcs k hlt 0 _ rfl)
    simp only[Nat.add_zero,Nat.mul_one] at d0
    have HSK:=ξh (HST.out k hlt)
    have HLK:=ξh (HL.out k (by omega))
    clear hcs HO1 HB1
    generalize zs[k]?.getD nilS=z at *
    obtain⟨g,o,cp,ev,hg1,hg2,hcc,hfz,hof⟩:=flt_put (enc:=strE) (m:=1) (fun _=>rfl) (by omega) HO.out HB.out.size (k:=k) (by rw[HLK.out];exact hlt) z
    simp only[Value.slice.injEq,Option.some.injEq,Addr.mk.injEq,and_true] at ev
    obtain⟨⟨rfl,rfl⟩,-,rfl⟩:=ev
    rw[HSK.out] at hof
    simp only[Nat.zero_add,Nat.mul_one] at hcc hof
    obtain⟨q0,c0⟩:=hcc 0 (by omega)
    simp only[Nat.add_zero] at c0
    have f0:=hfz k
    have HB2:=ξh (setRow_below (ξr w.heap.size) (strE z) wr k HB.out)
    simp only[setRow,strE] at hof HB2
    have HOF:=ξh hof
    clear hof hfz hcc
    go_wp2
    go_roundw
    case rel=>exact⟨k+1,by omega,by go_num,HOF.out,HB2.out⟩
    case measure=>simp[intOf];omega
  · obtain rfl:k=n:=by omega
    have hof:=HO.out
    rw[HAL.out] at hof
    have HOF:=ξh hof
    go_wp2
    go_ret
    exact⟨_,rfl,HOF.out,HB.out⟩
theorem eqStringS_same (va vb:Value) (zs:List ByteArray) (w:World) (ha:Rdt w (flt 1 strE zs) va) (hb:Rdt w (flt 1 strE zs) vb):
 Calls Tryz.prog 66 #[va,vb] w fun e w'=>e= .returned (.bool true)∧Below w.heap.size w w':=by
 obtain⟨a,n,ca,rfl,HN,_,hn,HA⟩:=flt_opn (m:=1) (enc:=strE) (fun _=>rfl) (by omega) nilS ha
 obtain⟨b,n2,cb,rfl,HM,_,_,HBB⟩:=flt_opn (m:=1) (enc:=strE) (fun _=>rfl) (by omega) nilS hb
 obtain rfl:n=n2:=HN.out.symm.trans HM.out
 have HA:=ξh HA
 have HBB:=ξh HBB
 clear HM ha hb
 have hne:((n:Int) != (n:Int))=false:=by simp
 go_enter Tryz.func66,Tryz.ntmps66
 go_wp2
 go_loopw [5] (fun i wr=>∃k:Nat,k≤n∧i= .int .i64 k∧Hid (Below w.heap.size w wr)) (fun i _=>n-(intOf i).toNat)
 case atStart=>exact⟨0,by omega,rfl,ξb _ _⟩
 case round=>
  obtain⟨k,hk,rfl,HB⟩:=hrel
  by_cases hlt:k<n
  · obtain⟨g1,o1,rfl,hg1,hc1⟩:=HA.out (by omega)
    obtain⟨g2,o2,rfl,hg2,hc2⟩:=HBB.out (by omega)
    have hltI:(k:Int)<(n:Int):=by omega
    have x0:=rg ((HB.out.cell (p:=⟨g1,o1+k*1+0,none⟩) hg1).trans (hc1 k hlt 0 _ rfl))
    have y0:=rg ((HB.out.cell (p:=⟨g2,o2+k*1+0,none⟩) hg2).trans (hc2 k hlt 0 _ rfl))
    simp only[Nat.add_zero,Nat.mul_one] at x0 y0
    generalize zs[k]?.getD nilS=z at *
    clear hc1 hc2
    have hzz:(z.toList==z.toList)=true:=by simp
    go_wp2
    refine wp_region_quiet_below (by kernel_rfl) (by kernel_rfl) ?_
    repeat (go_big_quiet_step (fail))
    refine wpQuiet_nil ?_
    rintro _ ⟨⟨dq,osq⟩,rfl⟩
    go_wp2
    go_roundw
    case rel=>exact⟨k+1,by omega,by go_num,HB.out.trans ((below_regrown _ dq osq).mono HB.out.size)⟩
    case measure=>simp[intOf];omega
  · obtain rfl:k=n:=by omega
    go_wp2
    go_ret
    exact⟨rfl,HB.out⟩
theorem markStringS_any (v:Value) (zs:List ByteArray) (fp:List Nat) (q:Nat) (w:World) (h:Odt w (flt 1 strE zs) v fp) (hn:fp.Nodup) (hb:zs.length≤4194304) (hq:0<q) (hq2:q≤1125899906842624):
 Calls Tryz.prog 86 #[v,.int .i64 q] w fun e w'=>e= .returned (.int .i64 (q+(zs.length:Int)))∧Odt w' (flt 1 strE ((List.range zs.length).map fun i:Nat=>mkTx (q+i))) v fp∧Wr w w' fp:=by
 obtain⟨a,n,cap,rfl,HN,_,hnl,-⟩:=flt_opn (m:=1) (enc:=strE) (fun _=>rfl) (by omega) nilS h.rd
 obtain⟨f,hf⟩:∃f:Nat→ByteArray,f=fun i:Nat=>mkTx (q+i):=⟨_,rfl⟩
 have HFE:=ξh (fun i=>congrFun hf i)
 rw[←hf,HN.out]
 rw[HN.out] at hb
 clear hf
 have HST:=ξh (fun k (h:k<n)=>mkG_step f zs k (by rw[HN.out];exact h))
 have HLN:=ξh (fun k (h:k≤n)=>(mkG_len f zs k (by rw[HN.out];exact h)).trans HN.out)
 have HALL:=ξh (mkG_all f zs n HN.out)
 have HH:=ξh h
 clear h
 go_enter Tryz.func86,Tryz.ntmps86
 go_wp2
 go_loopw [1,5] (fun x i wr=>∃k:Nat,k≤n∧i= .int .i64 k∧x= .int .i64 ((q+k:Nat):Int)∧Hid (Odt wr (flt 1 strE (mkG f zs k)) (.slice a n cap) fp)∧Hid (Wr w wr fp)) (fun _ i _=>n-(intOf i).toNat)
 case atStart=>exact⟨0,by omega,rfl,int_eq (by simp),by rw[mkG_zero];exact HH.out,Wr.refl _ _⟩
 case round=>
  obtain⟨k,hk,rfl,rfl,HO,HW⟩:=hrel
  by_cases hlt:k<n
  · have hltI:(k:Int)<(n:Int):=by omega
    have hfk:=HFE.out k
    obtain⟨p,hp⟩:∃p:Nat,p=q+k:=⟨_,rfl⟩
    rw[←hp] at hfk ⊢
    have HMT:=ξh (fun w=>markText_any p (by omega) (by omega) w)
    have hp2:(p:Int)≤1125899940397056:=by omega
    have HP:=ξh hp
    rw[←hfk] at HMT
    have HSK:=ξh (HST.out k hlt)
    have HLK:=ξh (HLN.out k (by omega))
    clear hp hfk
    generalize f k=tx at *
    go_wp2_with fail
    refine(HMT.out _).mono ?_
    rintro e w2 ⟨rfl,b2⟩
    have HO2:=HO.out.behind b2
    have HW2:=HW.out.trans (Wr.of_below b2)
    obtain⟨g,off,rfl,hcc,hfz,hset⟩:=flt_mark (enc:=strE) (m:=1) (fun _=>rfl) (by omega) HO2 hn (k:=k) (by rw[HLK.out];exact hlt)
    obtain⟨s1,s2⟩:=hset tx
    rw[HSK.out] at s1
    obtain⟨q0,c0⟩:=hcc 0 (by omega)
    have f0:=hfz (off+k*1)
    simp only[Nat.add_zero,Nat.mul_one] at c0 f0
    simp only[setRow,strE,Nat.mul_one] at s1 s2
    have HS1:=ξh s1
    have HS2:=ξh (HW2.trans s2)
    clear s1 s2 hset hcc hfz b2 HO2 HW2
    go_wp2
    go_roundw
    case rel=>exact⟨k+1,by omega,by go_num,int_eq (by rw[HP.out];omega),HS1.out,HS2.out⟩
    case measure=>simp[intOf];omega
  · obtain rfl:k=n:=by omega
    have ho:=HO.out
    rw[HALL.out] at ho
    have HOF:=ξh ho
    clear HO ho
    go_wp2
    go_ret
    exact⟨ret_int (by omega),HOF.out,HW.out⟩
def mkFib (q:Int):Fib:=⟨q,q+1,q+1+1,q+1+1+1⟩
theorem szFiberS_any (v:Value) (zs:List Fib) (l:Int) (w:World) (h:Rwt w (flt 4 fibE zs) v) (h0:0≤l) (h1:l≤1048576):
 Calls Tryz.prog 57 #[v,.int .i64 l] w fun e w'=>e= .returned (.int .i64 (if l<zs.length then -1 else l-zs.length))∧w=w':=by
 obtain⟨a,n,cap,rfl,HN,hla,_⟩:=flt_opnw (m:=4) (enc:=fibE) (fun _=>rfl) (by omega) nilB h
 rw[HN.out]
 clear h
 by_cases hc:l-n<0
 · have hb:decide (l-n<0)=true:=by simpa using hc
   have e:(if l<(n:Int) then(-1:Int) else l-n)= -1:=if_pos (by omega)
   rw[e]
   go_enter Tryz.func57,Tryz.ntmps57
   go_wp2
   go_ret
   exact⟨rfl,rfl⟩
 · have hb:decide (l-n<0)=false:=by simpa using hc
   have e:(if l<(n:Int) then(-1:Int) else l-n)=l-n:=if_neg (by omega)
   rw[e]
   go_enter Tryz.func57,Tryz.ntmps57
   go_wp2
   go_ret
   exact⟨rfl,rfl⟩
theorem toFiber_any (z:Fib) (w:World):
 Calls Tryz.prog 109 #[fibV z] w fun e w'=>e= .returned (fibV z)∧Below w.heap.size w w':=by
 unfold fibV
 go_enter Tryz.func109,Tryz.ntmps109
 go_wp2
 exact bodyPost_ret (v:= .agg #[.int .i64 z.a,.int .i64 z.b,.int .i64 z.l,.int .i64 z.r]) (by simp[results,Tryz.results109,go_sem]) rfl ⟨rfl,(((ξb _ _).alloc (ξr _) _).alloc (by simp) _).alloc (by simp;omega) _⟩
theorem eqFiber_same (z:Fib) (w:World):
 Calls Tryz.prog 119 #[fibV z,fibV z] w fun e w'=>e= .returned (.bool true)∧Below w.heap.size w w':=by
 have n0:(z.a != z.a)=false:=by simp
 have n1:(z.b != z.b)=false:=by simp
 have n2:(z.l != z.l)=false:=by simp
 have n3:(z.r != z.r)=false:=by simp
 have HB:=ξh (((ξb w.heap.size w).alloc (ξr _) (.cells #[.int .i64 z.a,.int .i64 z.b,.int .i64 z.l,.int .i64 z.r] 146)).alloc (by simp) (.cells #[.int .i64 z.a,.int .i64 z.b,.int .i64 z.l,.int .i64 z.r] 146))
 unfold fibV
 go_enter Tryz.func119,Tryz.ntmps119
 go_wp2
 go_ret
 exact⟨rfl,HB.out⟩
theorem Tryz.infoFiber:(Tryz.prog.info? 146).map (fun i=>(i.zero,i.size,i.bytes))=some (some (.agg #[.int .i64 0,.int .i64 0,.int .i64 0,.int .i64 0]),4,32):=by kernel_rfl
theorem toFiberS_any (v:Value) (zs:List Fib) (w:World) (h:Rwt w (flt 4 fibE zs) v) (hr:zs.length≤1048576):
 Calls Tryz.prog 61 #[v] w fun e w'=>∃v',e= .returned v'∧Ofr w' w.heap.size (flt 4 fibE zs) v'∧Below w.heap.size w w':=by
 obtain⟨i0,hi,hz0,hz1,hz2⟩:=info_parts Tryz.infoFiber
 obtain⟨a,n,cap,rfl,HN,hn,ha⟩:=flt_opnw (m:=4) (enc:=fibE) (fun _=>rfl) (by omega) nilB h
 have HA:=ξh ha
 have HL:=ξh (fun k hk=>fillG_len nilB zs n k HN.out hk)
 have HST:=ξh (fun k hk=>fillG_step nilB zs n k HN.out hk)
 have HAL:=ξh (fillG_all nilB zs n HN.out)
 rw[HN.out] at hr
 clear ha h
 go_enter Tryz.func61,Tryz.ntmps61
 go_wp2_with (refine wpList_make_full _ rfl _ _ 33 rfl w.heap.size 146 i0 (.agg #[.int .i64 0,.int .i64 0,.int .i64 0,.int .i64 0]) 4 Tryz.underlying33 hi hz0 hz1 _ _ _ _ n rfl rfl rfl rfl (by rw[hz2];omega) (by unfold maxLen;omega) (ξr _) ?_;intro w1 hown1 hgrow1)
 have HO1:=ξh (show Ofr w1 w.heap.size (flt 4 fibE (fillG nilB zs n 0)) (.slice (some ⟨w.heap.size,0,none⟩) n n) from by
  rw[fillG_zero]
  exact made_flat (enc:=fibE) (fun _=>rfl) (by omega) nilB rfl hown1)
 have HB1:=ξh (show Below w.heap.size w w1 from(ξb _ _).grown hgrow1 (ξr _) (by simp))
 clear hown1 hgrow1
 go_loopw [4] (fun i wr=>∃k:Nat,k≤n∧i= .int .i64 k∧Hid (Ofr wr w.heap.size (flt 4 fibE (fillG nilB zs n k)) (.slice (some ⟨w.heap.size,0,none⟩) n n))∧Hid (Below w.heap.size w wr)) (fun i _=>n-(intOf i).toNat)
 case atStart=>exact⟨0,by omega,rfl,HO1.out,HB1.out⟩
 case round=>
  obtain⟨k,hk,rfl,HO,HB⟩:=hrel
  by_cases hlt:k<n
  · obtain⟨b,off,rfl,hbs,hcs⟩:=HA.out (by omega)
    have hltI:(k:Int)<(n:Int):=by omega
    have d0:=(HB.out.cell (p:=⟨b,off+k*4+0,none⟩) hbs).trans (hcs k hlt 0 _ rfl)
    have d1:=(HB.out.cell (p:=⟨b,off+k*4+1,none⟩) hbs).trans (hcs k hlt 1 _ rfl)
    have d2:=(HB.out.cell (p:=⟨b,off+k*4+2,none⟩) hbs).trans (hcs k hlt 2 _ rfl)
    have d3:=(HB.out.cell (p:=⟨b,off+k*4+3,none⟩) hbs).trans (hcs k hlt 3 _ rfl)
    simp only[Nat.add_zero] at d0
    have HS:=ξh (fun w=>toFiber_any (zs[k]?.getD nilB) w)
    have HSK:=ξh (HST.out k hlt)
    have HLK:=ξh (HL.out k (by omega))
    clear hcs HO1 HB1
    unfold fibV at HS
    generalize zs[k]?.getD nilB=z at *
    go_wp2_with fail
    refine(HS.out _).mono ?_
    rintro e w2 ⟨rfl,b2⟩
    obtain⟨g,o,cp,ev,hg1,hg2,hcc,hfz,hof⟩:=flt_put (enc:=fibE) (m:=4) (fun _=>rfl) (by omega) (HO.out.below b2) (ξs HB.out.size b2.size) (k:=k) (by rw[HLK.out];exact hlt) z
    simp only[Value.slice.injEq,Option.some.injEq,Addr.mk.injEq,and_true] at ev
    obtain⟨⟨rfl,rfl⟩,-,rfl⟩:=ev
    rw[HSK.out] at hof
    simp only[Nat.zero_add] at hcc hof
    obtain⟨q0,c0⟩:=hcc 0 (by omega)
    obtain⟨q1,c1⟩:=hcc 1 (by omega)
    obtain⟨q2,c2⟩:=hcc 2 (by omega)
    obtain⟨q3,c3⟩:=hcc 3 (by omega)
    simp only[Nat.add_zero] at c0
    have f0:=hfz (k*4+0)
    have f1:=hfz (k*4+1)
    have f2:=hfz (k*4+2)
    have f3:=hfz (k*4+3)
    simp only[Nat.add_zero] at f0
    have HB2:=ξh (setRow_below (ξr w.heap.size) (fibE z) w2 (k*4) (HB.out.trans (b2.mono HB.out.size)))
    simp only[setRow,fibE,Nat.add_assoc,Nat.reduceAdd] at hof HB2
    have HOF:=ξh hof
    clear hof b2 hfz hcc
    go_wp2
    go_roundw
    case rel=>exact⟨k+1,by omega,by go_num,HOF.out,HB2.out⟩
    case measure=>simp[intOf];omega
  · obtain rfl:k=n:=by omega
    have hof:=HO.out
    rw[HAL.out] at hof
    have HOF:=ξh hof
    go_wp2
    go_ret
    exact⟨_,rfl,HOF.out,HB.out⟩
theorem eqFiberS_same (va vb:Value) (zs:List Fib) (w:World) (ha:Rdt w (flt 4 fibE zs) va) (hb:Rdt w (flt 4 fibE zs) vb):
 Calls Tryz.prog 67 #[va,vb] w fun e w'=>e= .returned (.bool true)∧Below w.heap.size w w':=by
 obtain⟨a,n,ca,rfl,HN,_,hn,HA⟩:=flt_opn (m:=4) (enc:=fibE) (fun _=>rfl) (by omega) nilB ha
 obtain⟨b,n2,cb,rfl,HM,_,_,HBB⟩:=flt_opn (m:=4) (enc:=fibE) (fun _=>rfl) (by omega) nilB hb
 obtain rfl:n=n2:=HN.out.symm.trans HM.out
 have HA:=ξh HA
 have HBB:=ξh HBB
 clear HM ha hb
 have hne:((n:Int) != (n:Int))=false:=by simp
 go_enter Tryz.func67,Tryz.ntmps67
 go_wp2
 go_loopw [5] (fun i wr=>∃k:Nat,k≤n∧i= .int .i64 k∧Hid (Below w.heap.size w wr)) (fun i _=>n-(intOf i).toNat)
 case atStart=>exact⟨0,by omega,rfl,ξb _ _⟩
 case round=>
  obtain⟨k,hk,rfl,HB⟩:=hrel
  by_cases hlt:k<n
  · obtain⟨g1,o1,rfl,hg1,hc1⟩:=HA.out (by omega)
    obtain⟨g2,o2,rfl,hg2,hc2⟩:=HBB.out (by omega)
    have hltI:(k:Int)<(n:Int):=by omega
    have x0:=rg ((HB.out.cell (p:=⟨g1,o1+k*4+0,none⟩) hg1).trans (hc1 k hlt 0 _ rfl))
    have y0:=rg ((HB.out.cell (p:=⟨g2,o2+k*4+0,none⟩) hg2).trans (hc2 k hlt 0 _ rfl))
    have x1:=rg ((HB.out.cell (p:=⟨g1,o1+k*4+1,none⟩) hg1).trans (hc1 k hlt 1 _ rfl))
    have y1:=rg ((HB.out.cell (p:=⟨g2,o2+k*4+1,none⟩) hg2).trans (hc2 k hlt 1 _ rfl))
    have x2:=rg ((HB.out.cell (p:=⟨g1,o1+k*4+2,none⟩) hg1).trans (hc1 k hlt 2 _ rfl))
    have y2:=rg ((HB.out.cell (p:=⟨g2,o2+k*4+2,none⟩) hg2).trans (hc2 k hlt 2 _ rfl))
    have x3:=rg ((HB.out.cell (p:=⟨g1,o1+k*4+3,none⟩) hg1).trans (hc1 k hlt 3 _ rfl))
    have y3:=rg ((HB.out.cell (p:=⟨g2,o2+k*4+3,none⟩) hg2).trans (hc2 k hlt 3 _ rfl))
    simp only[Nat.add_zero] at x0 y0
    have HQ:=ξh (fun w=>eqFiber_same (zs[k]?.getD nilB) w)
    unfold fibV at HQ
    generalize zs[k]?.getD nilB=z at *
    clear hc1 hc2
    go_wp2
    refine wp_region_quiet_below (by kernel_rfl) (by kernel_rfl) ?_
    repeat (go_big_quiet_step (first | (go_at_call 119;exact Calls.regrown_of (HQ.out _))))
    refine wpQuiet_nil ?_
    rintro _ ⟨⟨dq,osq⟩,rfl⟩
    go_wp2
    go_roundw
    case rel=>exact⟨k+1,by omega,by go_num,HB.out.trans ((below_regrown _ dq osq).mono HB.out.size)⟩
    case measure=>simp[intOf];omega
  · obtain rfl:k=n:=by omega
    go_wp2
    go_ret
    exact⟨rfl,HB.out⟩
theorem markFiberS_any (v:Value) (zs:List Fib) (fp:List Nat) (q:Int) (w:World) (h:Odt w (flt 4 fibE zs) v fp) (hn:fp.Nodup) (hb:zs.length≤4194304) (hq:0≤q) (hq2:q≤1125899906842624):
 Calls Tryz.prog 87 #[v,.int .i64 q] w fun e w'=>e= .returned (.int .i64 (q+4*(zs.length:Int)))∧Odt w' (flt 4 fibE ((List.range zs.length).map fun i:Nat=>mkFib (q+4*(i:Int)))) v fp∧Wr w w' fp:=by
 obtain⟨a,n,cap,rfl,HN,_,hnl,-⟩:=flt_opn (m:=4) (enc:=fibE) (fun _=>rfl) (by omega) nilB h.rd
 obtain⟨f,hf⟩:∃f:Nat→Fib,f=fun i:Nat=>mkFib (q+4*(i:Int)):=⟨_,rfl⟩
 have HFE:=ξh (fun i=>congrFun hf i)
 rw[←hf,HN.out]
 rw[HN.out] at hb
 clear hf
 have HST:=ξh (fun k (h:k<n)=>mkG_step f zs k (by rw[HN.out];exact h))
 have HLN:=ξh (fun k (h:k≤n)=>(mkG_len f zs k (by rw[HN.out];exact h)).trans HN.out)
 have HALL:=ξh (mkG_all f zs n HN.out)
 have HH:=ξh h
 clear h
 go_enter Tryz.func87,Tryz.ntmps87
 go_wp2
 go_loopw [1,5] (fun x i wr=>∃k:Nat,k≤n∧i= .int .i64 k∧x= .int .i64 (q+4*(k:Int))∧Hid (Odt wr (flt 4 fibE (mkG f zs k)) (.slice a n cap) fp)∧Hid (Wr w wr fp)) (fun _ i _=>n-(intOf i).toNat)
 case atStart=>exact⟨0,by omega,rfl,int_eq (by simp),by rw[mkG_zero];exact HH.out,Wr.refl _ _⟩
 case round=>
  obtain⟨k,hk,rfl,rfl,HO,HW⟩:=hrel
  by_cases hlt:k<n
  · have hltI:(k:Int)<(n:Int):=by omega
    obtain⟨g,off,rfl,hcc,hfz,hset⟩:=flt_mark (enc:=fibE) (m:=4) (fun _=>rfl) (by omega) HO.out hn (k:=k) (by rw[HLN.out k (by omega)];exact hlt)
    obtain⟨s1,s2⟩:=hset (f k)
    rw[HST.out k hlt] at s1
    have hfk:=HFE.out k
    obtain⟨p,hp⟩:∃p:Int,p=q+4*(k:Int):=⟨_,rfl⟩
    have hp1:0≤p:=by omega
    have hp2:p≤1125899940397056:=by omega
    rw[←hp] at hfk ⊢
    have HP:=ξh hp
    clear hp
    rw[hfk] at s1 s2
    simp only[setRow,fibE,mkFib,Nat.add_assoc (off+k*4),Nat.reduceAdd] at s1 s2
    have HS1:=ξh s1
    have HS2:=ξh (HW.out.trans s2)
    obtain⟨q0,c0⟩:=hcc 0 (by omega)
    obtain⟨q1,c1⟩:=hcc 1 (by omega)
    obtain⟨q2,c2⟩:=hcc 2 (by omega)
    obtain⟨q3,c3⟩:=hcc 3 (by omega)
    have f0:=hfz (off+k*4+0)
    have f1:=hfz (off+k*4+1)
    have f2:=hfz (off+k*4+2)
    have f3:=hfz (off+k*4+3)
    simp only[Nat.add_zero] at c0 f0
    clear s1 s2 hset hcc hfz hfk
    go_wp2
    go_roundw
    case rel=>exact⟨k+1,by omega,by go_num,int_eq (by rw[HP.out];omega),HS1.out,HS2.out⟩
    case measure=>simp[intOf];omega
  · obtain rfl:k=n:=by omega
    have ho:=HO.out
    rw[HALL.out] at ho
    have HOF:=ξh ho
    clear HO ho
    go_wp2
    go_ret
    exact⟨rfl,HOF.out,HW.out⟩
theorem heldFiberS_yes (v:Value) (n:Nat) (q:Int) (w:World) (h:Rdt w (flt 4 fibE ((List.range n).map fun i:Nat=>mkFib (q+4*(i:Int)))) v) (hb:n≤4194304) (hq:0≤q) (hq2:q≤1125899906842624):
 Calls Tryz.prog 148 #[v,.int .i64 q] w fun e w'=>e= .returned (.int .i64 (q+4*(n:Int)))∧Below w.heap.size w w':=by
 obtain⟨a,n2,cap,rfl,HN,_,hnl,ha⟩:=flt_opn (m:=4) (enc:=fibE) (fun _=>rfl) (by omega) nilB h
 obtain rfl:n=n2:=by have:=HN.out;simpa using this
 have HG:=ξh (fun k hk=>rangeMap_get (fun i:Nat=>mkFib (q+4*(i:Int))) nilB n k hk)
 have HA:=ξh ha
 clear ha h HN
 go_enter Tryz.func148,Tryz.ntmps148
 go_wp2
 go_loopw [1,5] (fun x i wr=>∃k:Nat,k≤n∧i= .int .i64 k∧x= .int .i64 (q+4*(k:Int))∧Hid (Below w.heap.size w wr)) (fun _ i _=>n-(intOf i).toNat)
 case atStart=>exact⟨0,by omega,rfl,int_eq (by simp),ξb _ _⟩
 case round=>
  obtain⟨k,hk,rfl,rfl,HB⟩:=hrel
  by_cases hlt:k<n
  · have hltI:(k:Int)<(n:Int):=by omega
    obtain⟨g,off,rfl,hg,hcs⟩:=HA.out (by omega)
    have hc:=fun r u hu=>(HB.out.cell (p:=⟨g,off+k*4+r,none⟩) hg).trans (hcs k hlt r u hu)
    rw[HG.out k hlt] at hc
    obtain⟨p,hp⟩:∃p:Int,p=q+4*(k:Int):=⟨_,rfl⟩
    have hp1:0≤p:=by omega
    have hp2:p≤1125899940397056:=by omega
    rw[←hp] at hc ⊢
    have HP:=ξh hp
    clear hp
    have d0:=hc 0 _ rfl
    have d1:=hc 1 _ rfl
    have d2:=hc 2 _ rfl
    have d3:=hc 3 _ rfl
    simp only[Nat.add_zero,mkFib] at d0 d1 d2 d3
    have n0:(p != p)=false:=by simp
    have n1:((p+1:Int) != p+1)=false:=by simp
    have n2:((p+1+1:Int) != p+1+1)=false:=by simp
    have n3:((p+1+1+1:Int) != p+1+1+1)=false:=by simp
    clear hc hcs
    go_wp2
    go_roundw
    case rel=>exact⟨k+1,by omega,by go_num,int_eq (by rw[HP.out];omega),HB.out⟩
    case measure=>simp[intOf];omega
  · obtain rfl:k=n:=by omega
    go_wp2
    go_ret
    exact⟨rfl,HB.out⟩
def NetSm (n:Net):Prop:=∀i:Nat,(nmA n i).size≤1048576
def NetW (w:World) (v:Value) (n:Net):Prop:=∃u1 u2,v= .agg #[u1,u2]∧Rwt w (flt 1 strE n.ns) u1∧Rwt w (flt 4 fibE n.fs) u2∧ ∀i:Nat,(nmA n i).size≤maxLen
theorem NetW.behind {w w':World} {v:Value} {n:Net} (h:NetW w v n) (hb:Below w.heap.size w w'):NetW w' v n:=by
 obtain⟨u1,u2,e,h1,h2,h3⟩:=h;exact⟨u1,u2,e,h1.behind hb,h2.behind hb,h3⟩
def NetO (w:World) (n:Net) (v:Value) (fp:List Nat):Prop:=∃u1 u2 f1 f2,v= .agg #[u1,u2]∧Odt w (flt 1 strE n.ns) u1 f1∧Odt w (flt 4 fibE n.fs) u2 f2∧fp=f1++f2
theorem NetO.rd {w:World} {n:Net} {v:Value} {fp:List Nat} (h:NetO w n v fp) (hs:NetSm n):NetR w v n:=by
 obtain⟨u1,u2,f1,f2,e,h1,h2,_⟩:=h;exact⟨u1,u2,e,h1.rd,h2.rd,hs⟩
theorem NetO.behind {w w':World} {n:Net} {v:Value} {fp:List Nat} (h:NetO w n v fp) (hb:Below w.heap.size w w'):NetO w' n v fp:=by
 obtain⟨u1,u2,f1,f2,e,h1,h2,e2⟩:=h;exact⟨u1,u2,f1,f2,e,h1.behind hb,h2.behind hb,e2⟩
theorem NetO.apart {w w':World} {n:Net} {v:Value} {fp fq:List Nat} (h:NetO w n v fp) (hw:Wr w w' fq) (hd:∀k∈fp,k ∉ fq):NetO w' n v fp:=by
 obtain⟨u1,u2,f1,f2,e,h1,h2,rfl⟩:=h
 exact⟨u1,u2,f1,f2,e,h1.apart hw (fun k hk=>hd k (List.mem_append_left _ hk)),h2.apart hw (fun k hk=>hd k (List.mem_append_right _ hk)),rfl⟩
theorem NetO.lt {w:World} {n:Net} {v:Value} {fp:List Nat} (h:NetO w n v fp):∀k∈fp,k<w.heap.size:=by
 obtain⟨u1,u2,f1,f2,e,h1,h2,rfl⟩:=h
 intro k hk
 rcases List.mem_append.1 hk with hk | hk
 · exact h1.lt k hk
 · exact h2.lt k hk
theorem Rwt.slice {w:World} {size:Nat} {ds:List Dt} {v:Value} (h:Rwt w (.rows size ds) v):∃a n cap,v= .slice a n cap:=by
 obtain⟨a,n,cap,e,_⟩:=h.opn;exact⟨a,n,cap,e⟩
theorem Rdt.slice {w:World} {size:Nat} {ds:List Dt} {v:Value} (h:Rdt w (.rows size ds) v):∃a n cap,v= .slice a n cap:=by
 obtain⟨a,n,cap,e,_⟩:=h.opn;exact⟨a,n,cap,e⟩
theorem NetO.form {w:World} {n:Net} {v:Value} {fp:List Nat} (h:NetO w n v fp):∃a1 n1 c1 a2 n2 c2,v= .agg #[.slice a1 n1 c1,.slice a2 n2 c2]:=by
 obtain⟨u1,u2,f1,f2,rfl,h1,h2,_⟩:=h
 obtain⟨a1,n1,c1,rfl⟩:=Rdt.slice (show Rdt w (.rows _ _) u1 from h1.rd)
 obtain⟨a2,n2,c2,rfl⟩:=Rdt.slice (show Rdt w (.rows _ _) u2 from h2.rd)
 exact⟨_,_,_,_,_,_,rfl⟩
def szN (n:Net):Nat:=n.ns.length+totS n.ns+n.fs.length
def SzQ (N:Nat) (l:Int) (w:World) (e:Ending) (w':World):Prop:=∃r:Int,e= .returned (.int .i64 r)∧Below w.heap.size w w'∧((r= -1∧l<N)∨(r=l-N∧0≤r))
theorem szNetwork_any (v:Value) (n:Net) (l:Int) (w:World) (h:NetW w v n) (h0:0≤l) (h1:l≤1048576):
 Calls Tryz.prog 12 #[v,.int .i64 l] w (SzQ (szN n) l w):=by
 obtain⟨u1,u2,rfl,r1,r2,hs⟩:=h
 have hal:=(ξb w.heap.size w).alloc (ξr _) (.cells #[u1,u2] 25)
 have HS1:=ξh (szStringS_any u1 n.ns l _ (r1.behind hal) h0 h1 hs)
 have HS2:=ξh (fun l' (h0:0≤l') (h1:l'≤1048576)=>szFiberS_any u2 n.fs l' _ (r2.behind hal) h0 h1)
 have HB:=ξh hal
 obtain⟨a1,n1,c1,rfl⟩:=r1.slice
 obtain⟨a2,n2,c2,rfl⟩:=r2.slice
 clear hal r1 r2 hs
 have HN:=ξh (show szN n=n.ns.length+totS n.ns+n.fs.length from rfl)
 generalize szN n=N at *
 unfold SzQ
 by_cases hx:l<(n.ns.length:Int)+totS n.ns
 · rw[if_pos hx] at HS1
   have hneg:(-1:Int)<0:=by omega
   go_enter Tryz.func12,Tryz.ntmps12
   go_wp2_with fail
   refine HS1.out.mono ?_
   rintro e w2 ⟨rfl,rfl⟩
   go_wp2
   go_ret
   exact⟨-1,rfl,HB.out,.inl ⟨rfl,by have:=HN.out;omega⟩⟩
 rw[if_neg hx] at HS1
 have HS3:=ξh (HS2.out (l-((n.ns.length:Int)+totS n.ns)) (by omega) (by omega))
 have HX:=ξh hx
 obtain⟨r,hr⟩:∃r,r=l-((n.ns.length:Int)+totS n.ns):=⟨_,rfl⟩
 rw[←hr] at HS1 HS3
 have hr0:¬r<0:=by omega
 have hrb:decide (r<0)=false:=ξf hr0
 have HR:=ξh hr
 clear hr HS2 hx
 by_cases hy:r<(n.fs.length:Int)
 · rw[if_pos hy] at HS3
   have hneg:(-1:Int)<0:=by omega
   have HY:=ξh hy
   clear hy
   go_enter Tryz.func12,Tryz.ntmps12
   go_wp2_with fail
   refine HS1.out.mono ?_
   rintro e w2 ⟨rfl,rfl⟩
   go_wp2_with fail
   refine HS3.out.mono ?_
   rintro e w2 ⟨rfl,rfl⟩
   go_wp2
   go_ret
   exact⟨-1,rfl,HB.out,.inl ⟨rfl,by have:=HN.out;have:=HR.out;have:=HY.out;omega⟩⟩
 · rw[if_neg hy] at HS3
   have HY:=ξh hy
   obtain⟨r2,hr2⟩:∃r2,r2=r-(n.fs.length:Int):=⟨_,rfl⟩
   rw[←hr2] at HS3
   have hr20:¬r2<0:=by omega
   have hr2b:decide (r2<0)=false:=ξf hr20
   have HR2:=ξh hr2
   clear hr2 hy
   go_enter Tryz.func12,Tryz.ntmps12
   go_wp2_with fail
   refine HS1.out.mono ?_
   rintro e w2 ⟨rfl,rfl⟩
   go_wp2_with fail
   refine HS3.out.mono ?_
   rintro e w2 ⟨rfl,rfl⟩
   go_wp2
   go_ret
   exact⟨r2,rfl,HB.out,.inr ⟨by have:=HN.out;have:=HR.out;have:=HR2.out;omega,by omega⟩⟩
def ToP (O:World→Value→List Nat→Prop) (w:World) (e:Ending) (w':World):Prop:=∃v' fp,e= .returned v'∧O w' v' fp∧fp.Nodup∧(∀k∈fp,w.heap.size≤k)∧Below w.heap.size w w'
theorem toNetwork_any (v:Value) (n:Net) (w:World) (h:NetW w v n) (h1:n.ns.length≤1048576) (h2:n.fs.length≤1048576):
 Calls Tryz.prog 16 #[v] w (ToP (fun w'=>NetO w' n) w):=by
 obtain⟨u1,u2,rfl,r1,r2,hs⟩:=h
 obtain⟨a1,n1,c1,rfl⟩:=r1.slice
 obtain⟨a2,n2,c2,rfl⟩:=r2.slice
 obtain⟨W,hW⟩:∃W,W=((w.alloc (.cells #[.slice a1 n1 c1,.slice a2 n2 c2] 25)).alloc (.cells #[.slice none 0 0,.slice none 0 0] 35)).alloc (.cells #[.slice none 0 0,.slice none 0 0] 35):=⟨_,rfl⟩
 have b1:=(ξb w.heap.size w).alloc (ξr _) (.cells #[.slice a1 n1 c1,.slice a2 n2 c2] 25)
 have b2:=b1.alloc b1.size (.cells #[.slice none 0 0,.slice none 0 0] 35)
 have b3:=b2.alloc b2.size (.cells #[.slice none 0 0,.slice none 0 0] 35)
 have k1:=ξn w (.cells #[.slice a1 n1 c1,.slice a2 n2 c2] 25)
 have k2:=ξn (w.alloc (.cells #[.slice a1 n1 c1,.slice a2 n2 c2] 25)) (.cells #[.slice none 0 0,.slice none 0 0] 35)
 have k3:=ξn ((w.alloc (.cells #[.slice a1 n1 c1,.slice a2 n2 c2] 25)).alloc (.cells #[.slice none 0 0,.slice none 0 0] 35)) (.cells #[.slice none 0 0,.slice none 0 0] 35)
 have k1':=(heap_alloc_old _ (.cells #[.slice none 0 0,.slice none 0 0] 35) (ξa ((heap_alloc_old _ (.cells #[.slice none 0 0,.slice none 0 0] 35) (ξa k1).1).trans k1)).1).trans ((heap_alloc_old _ (.cells #[.slice none 0 0,.slice none 0 0] 35) (ξa k1).1).trans k1)
 have k2':=(heap_alloc_old _ (.cells #[.slice none 0 0,.slice none 0 0] 35) (ξa k2).1).trans k2
 rw[show(w.alloc (.cells #[.slice a1 n1 c1,.slice a2 n2 c2] 25)).heap.size=w.heap.size+1 by simp] at k2'
 rw[show((w.alloc (.cells #[.slice a1 n1 c1,.slice a2 n2 c2] 25)).alloc (.cells #[.slice none 0 0,.slice none 0 0] 35)).heap.size=w.heap.size+1+1 by simp] at k3
 have hz:(((w.alloc (.cells #[.slice a1 n1 c1,.slice a2 n2 c2] 25)).alloc (.cells #[.slice none 0 0,.slice none 0 0] 35)).alloc (.cells #[.slice none 0 0,.slice none 0 0] 35)).heap.size=w.heap.size+1+1+1:=by simp
 rw[←hW] at b3 k1' k2' k3 hz
 have HW:=ξh hW
 have HB:=ξh b3
 have K1:=ξh k1'
 have K2:=ξh k2'
 have K3:=ξh k3
 have HZ:=ξh hz
 have HT1:=ξh (toStringS_any _ n.ns W (r1.behind b3) h1)
 have HT2:=ξh (fun w' (hb:Below w.heap.size w w')=>toFiberS_any _ n.fs w' (r2.behind hb) h2)
 unfold ToP
 clear b1 b2 b3 k1 k2 k3 k1' k2' hW hz r1 r2 hs
 go_enter Tryz.func16,Tryz.ntmps16
 go_wp2_with fail
 rw[←HW.out]
 refine HT1.out.mono ?_
 rintro e w2 ⟨x1,rfl,o1,b2⟩
 obtain⟨f1,p1,p2,p3⟩:=o1
 obtain⟨a3,n3,c3,rfl⟩:=Rdt.slice (show Rdt w2 (.rows _ _) x1 from p1.rd)
 have m1:=kept_o' K1.out b2
 have m3:=kept_o' K3.out b2
 have y1:=blkc m1 (j:=1) (u:= .slice a2 n2 c2) rfl
 have q0:=blkc m3 (j:=0) (u:= .slice none 0 0) rfl
 have g0:=ξz _ _ 0 _ _ m3
 have hz2:=b2.size
 have HB2:=ξh (HB.out.trans (b2.mono HB.out.size))
 have M1:=ξh m1
 have M2:=ξh (kept_o' K2.out b2)
 have M3:=ξh m3
 have P1:=ξh p1
 have PL:=ξh p1.lt
 have P2:=ξh p2
 have P3:=ξh p3
 have HBW:=ξh b2
 clear b2 m1 m3 HW p1 p2 p3
 have hlt3:w.heap.size+1+1<w2.heap.size:=by have:=HZ.out;omega
 go_wp2_with (((show wpList _ _ _ (⟨none,.store 22 _ _,_,_,_,_⟩::_) _ _);refine wpList_st1 rfl 22 _ _ rfl (w.heap.size+1+1) 0 (.slice a3 n3 c3) rfl rfl M3.out (by simp) (by kernel_rfl) ⟨rfl,rfl⟩ ?_;intro w3 hs;have n1:=hs.keep (by omega) M1.out;have N2:=ξh (hs.keep (by omega) M2.out);have N3:=ξh hs.blk;have HB3:=ξh (hs.below w.heap.size w (by omega) HB2.out);have P1:=ξh (hs.odt P1.out (fun hk=>by have:=P3.out _ hk;have:=HZ.out;omega));have HSZ:=ξh hs.size;have y1:=blkc n1 (j:=1) (u:= .slice a2 n2 c2) rfl;have N1:=ξh n1;clear hs n1))
 go_wp2_with fail
 refine(HT2.out _ HB3.out).mono ?_
 rintro e w4 ⟨x2,rfl,o2,b4⟩
 obtain⟨f2,p1,p2,p3⟩:=o2
 obtain⟨a4,n4,c4,rfl⟩:=Rdt.slice (show Rdt w4 (.rows _ _) x2 from p1.rd)
 have M1:=ξh (kept_o' N1.out b4)
 have M2:=ξh (kept_o' N2.out b4)
 have M3:=ξh (kept_o' N3.out b4)
 have HB4:=ξh (HB3.out.trans (b4.mono HB3.out.size))
 have P1:=ξh (P1.out.behind b4)
 have Q1:=ξh p1
 have Q2:=ξh p2
 have Q3:=ξh (show∀k∈f2,w2.heap.size≤k from fun k hk=>by have:=p3 k hk;have:=HSZ.out;omega)
 clear b4 p1 p2 p3 y1 N1 N2 N3
 go_wp2_with (first
  | ((show wpList _ _ _ (⟨none,.store 33 _ _,_,_,_,_⟩::_) _ _);refine wpList_st1 rfl 33 _ _ rfl (w.heap.size+1+1) 1 (.slice a4 n4 c4) rfl rfl M3.out (by simp) (by kernel_rfl) ⟨rfl,rfl⟩ ?_;intro w5 hs;have N2:=ξh (hs.keep (by omega) M2.out);have N3:=ξh hs.blk;have HB5:=ξh (hs.below w.heap.size w (by omega) HB4.out);have P1:=ξh (hs.odt P1.out (fun hk=>by have:=P3.out _ hk;have:=HZ.out;omega));have Q1:=ξh (hs.odt Q1.out (fun hk=>by have:=Q3.out _ hk;omega));clear hs)
  | ((show wpList _ _ _ (⟨some _,.load 35 _,_,_,_,_⟩::_) _ _);refine wpList_ldx rfl 35 _ rfl (w.heap.size+1+1) 0 rfl [.slice a3 n3 c3,.slice a4 n4 c4] N3.out rfl _ (by exact Tryz.underlying35) rfl (by kernel_rfl) ?_)
  | ((show wpList _ _ _ (⟨none,.store 35 _ _,_,_,_,_⟩::_) _ _);refine wpList_stx rfl 35 _ _ rfl (w.heap.size+1) 0 [.slice a3 n3 c3,.slice a4 n4 c4] rfl rfl N2.out (by simp) (by kernel_rfl) (by simp[Value.oneCell']) ?_;intro w6 hs;have n2:=hs.blk;have HB6:=ξh (hs.below w.heap.size w (by omega) HB5.out);have P1:=ξh (hs.odt P1.out (fun hk=>by have:=P3.out _ hk;have:=HZ.out;omega));have Q1:=ξh (hs.odt Q1.out (fun hk=>by have:=Q3.out _ hk;omega));clear hs;have r0:=blkc n2 (j:=0) (u:= .slice a3 n3 c3) rfl;have r1:=blkc n2 (j:=1) (u:= .slice a4 n4 c4) rfl))
 exact bodyPost_ret (v:= .agg #[.slice a3 n3 c3,.slice a4 n4 c4]) (by simp[results,Tryz.results16,go_sem,r0,r1]) rfl ⟨_,f1++f2,rfl,⟨_,_,_,_,rfl,P1.out,Q1.out,rfl⟩,List.nodup_append.2 ⟨P2.out,Q2.out,fun a ha b hb e=>by have:=PL.out a ha;have:=Q3.out b hb;omega⟩,fun k hk=>by
  rcases List.mem_append.1 hk with hk | hk
  · have:=P3.out k hk;have:=HZ.out;omega
  · have:=Q3.out k hk;omega,HB6.out⟩
theorem eqNetwork_same (va vb:Value) (n:Net) (w:World) (ha:NetR w va n) (hb:NetR w vb n):
 Calls Tryz.prog 20 #[va,vb] w fun e w'=>e= .returned (.bool true)∧Below w.heap.size w w':=by
 obtain⟨u1,u2,rfl,r1,r2,-⟩:=ha
 obtain⟨v1,v2,rfl,s1,s2,-⟩:=hb
 obtain⟨a1,n1,c1,rfl⟩:=Rdt.slice (show Rdt w (.rows _ _) u1 from r1)
 obtain⟨a2,n2,c2,rfl⟩:=Rdt.slice (show Rdt w (.rows _ _) u2 from r2)
 obtain⟨a3,n3,c3,rfl⟩:=Rdt.slice (show Rdt w (.rows _ _) v1 from s1)
 obtain⟨a4,n4,c4,rfl⟩:=Rdt.slice (show Rdt w (.rows _ _) v2 from s2)
 have h1:=(ξb w.heap.size w).alloc (ξr _) (.cells #[.slice a1 n1 c1,.slice a2 n2 c2] 35)
 have h2:=h1.alloc h1.size (.cells #[.slice a3 n3 c3,.slice a4 n4 c4] 35)
 have HE1:=ξh (eqStringS_same _ _ n.ns _ (r1.behind h2) (s1.behind h2))
 have HE2:=ξh (fun w' (hb:Below w.heap.size w w')=>eqFiberS_same _ _ n.fs w' (r2.behind hb) (s2.behind hb))
 have HB:=ξh h2
 clear h1 h2 r1 r2 s1 s2
 go_enter Tryz.func20,Tryz.ntmps20
 go_wp2_with fail
 refine HE1.out.mono ?_
 rintro e w2 ⟨rfl,b2⟩
 obtain⟨hc,hf⟩:=bcell b2
 have HB2:=ξh (HB.out.trans (b2.mono HB.out.size))
 clear b2
 go_wp2_with fail
 refine(HE2.out _ HB2.out).mono ?_
 rintro e w3 ⟨rfl,b3⟩
 have HB3:=ξh (HB2.out.trans (b3.mono HB2.out.size))
 clear b3 hc hf
 go_wp2
 go_ret
 exact⟨rfl,HB3.out⟩
def mkNet (n:Net) (q:Nat):Net:=⟨(List.range n.ns.length).map fun i:Nat=>mkTx (q+i),(List.range n.fs.length).map fun i:Nat=>mkFib (((q+n.ns.length:Nat):Int)+4*(i:Int))⟩
def mkN (n:Net):Nat:=n.ns.length+4*n.fs.length
theorem markNetwork_any (v:Value) (n:Net) (fp:List Nat) (q:Nat) (w:World) (h:NetO w n v fp) (hn:fp.Nodup) (h1:n.ns.length≤1048576) (h2:n.fs.length≤1048576) (hq:0<q) (hq2:q≤1099511627776):
 Calls Tryz.prog 34 #[v,.int .i64 (q:Int)] w fun e w'=>e= .returned (.int .i64 ((q+mkN n:Nat):Int))∧NetO w' (mkNet n q) v fp∧Wr w w' fp:=by
 obtain⟨u1,u2,f1,f2,rfl,r1,r2,rfl⟩:=h
 obtain⟨hn1,hn2,hn3⟩:=List.nodup_append.1 hn
 obtain⟨a1,n1,c1,rfl⟩:=Rdt.slice (show Rdt w (.rows _ _) u1 from r1.rd)
 obtain⟨a2,n2,c2,rfl⟩:=Rdt.slice (show Rdt w (.rows _ _) u2 from r2.rd)
 obtain⟨bx,bc,blt,-⟩:=box_facts w #[.slice a1 n1 c1,.slice a2 n2 c2] 35
 have q1:=bc 1 (.slice a2 n2 c2) rfl
 have hlt1:=r1.lt
 have hlt2:=r2.lt
 have HM1:=ξh (markStringS_any _ n.ns f1 q _ (r1.behind bx) hn1 (by omega) hq (by omega))
 have R2:=ξh (r2.behind bx)
 have HBX:=ξh bx
 have HL:=ξh hlt1
 have HL2:=ξh hlt2
 have HD:=ξh hn3
 have HN:=ξh (show mkN n=n.ns.length+4*n.fs.length from rfl)
 have HMK:=ξh (show mkNet n q=⟨(List.range n.ns.length).map fun i:Nat=>mkTx (q+i),(List.range n.fs.length).map fun i:Nat=>mkFib (((q+n.ns.length:Nat):Int)+4*(i:Int))⟩ from rfl)
 have H1:=ξh h1
 have H2:=ξh h2
 generalize mkN n=N at *
 generalize mkNet n q=nn at *
 clear bx bc r1 r2 hlt1 hlt2 hn hn3 h1 h2
 go_enter Tryz.func34,Tryz.ntmps34
 go_wp2_with fail
 generalize w.alloc (.cells #[.slice a1 n1 c1,.slice a2 n2 c2] 35)=w1 at *
 refine HM1.out.mono ?_
 rintro e w2 ⟨rfl,o1,wr1⟩
 have e1:w2.cell? ⟨w.heap.size,1,none⟩=some (.slice a2 n2 c2):=by
  unfold World.cell? at q1 ⊢
  rw[wr1.block _ blt (fun hk=>by have:=HL.out _ hk;omega)]
  exact q1
 have O2:=ξh (R2.out.apart wr1 (fun k hk hk2=>HD.out k hk2 k hk rfl))
 have HM2:=ξh (markFiberS_any _ n.fs f2 (((q+n.ns.length:Nat):Int)) w2 O2.out hn2 (by have:=H2.out;omega) (by omega) (by have:=H1.out;omega))
 have O1:=ξh o1
 have W1:=ξh wr1
 clear o1 wr1 q1
 rw[show((q:Nat):Int)+(n.ns.length:Int)=((q+n.ns.length:Nat):Int) by omega]
 go_wp2_with fail
 refine HM2.out.mono ?_
 rintro e w3 ⟨rfl,o2,wr2⟩
 have O1:=ξh (O1.out.apart wr2 (fun k hk hk2=>HD.out k hk k hk2 rfl))
 have HW:=ξh (((Wr.of_below HBX.out:Wr w w1 (f1++f2)).trans (W1.out.mono (fun k hk=>List.mem_append_left _ hk))).trans (wr2.mono (fun k hk=>List.mem_append_right _ hk)))
 have O2:=ξh o2
 clear o2 wr2
 go_wp2
 go_ret
 exact⟨ret_int (by rw[HN.out];omega),⟨_,_,f1,f2,rfl,by rw[HMK.out];exact O1.out,by rw[HMK.out];exact O2.out,rfl⟩,HW.out⟩
open Go.RowKit
structure Dem where
 a:Int
 b:Int
 r:Int
 c:Int
def demV (d:Dem):Value:= .agg #[.int .i64 d.a,.int .i64 d.b,.int .i64 d.r,.int .i64 d.c]
def demOk (d:Dem) (m:Nat):Bool:=inB d.a 0 ((m:Int)-1)&&inB d.b 0 ((m:Int)-1)&&(d.a != d.b)&&inB d.r 1 1000&&inB d.c 0 2
theorem l10Demand_any (a1 a2:Option Addr) (m c1 n2 c2:Nat) (d:Dem) (w:World) (hm:m≤1000):
 Calls Tryz.prog 127 #[.agg #[.slice a1 m c1,.slice a2 n2 c2],demV d] w fun e w'=>e= .returned (.bool (demOk d m))∧Below w.heap.size w w':=by
 obtain⟨a,b,r,c⟩:=d
 have hal:=(ξb w.heap.size w).alloc (ξr _) (.cells #[.slice a1 m c1,.slice a2 n2 c2] 35)
 have HB:=ξh (hal.alloc hal.size (.cells #[.int .i64 a,.int .i64 b,.int .i64 r,.int .i64 c] 53))
 have HF:=ξh (show demOk ⟨a,b,r,c⟩ m=(inB a 0 ((m:Int)-1)&&inB b 0 ((m:Int)-1)&&(a != b)&&inB r 1 1000&&inB c 0 2) from rfl)
 generalize demOk ⟨a,b,r,c⟩ m=q at *
 unfold demV
 clear hal
 cases h0:inB a 0 ((m:Int)-1)
 · rw[h0] at HF
   go_enter Tryz.func127,Tryz.ntmps127
   go_wp2_with (go_at_call 77;refine(l1In_any _ _ _ _).mono ?_;rintro e w' ⟨rfl,rfl⟩)
   go_ret
   exact⟨by rw[HF.out];rfl,HB.out⟩
 rw[h0] at HF
 cases h1:inB b 0 ((m:Int)-1)
 · rw[h1] at HF
   go_enter Tryz.func127,Tryz.ntmps127
   go_wp2_with (go_at_call 77;refine(l1In_any _ _ _ _).mono ?_;rintro e w' ⟨rfl,rfl⟩)
   go_ret
   exact⟨by rw[HF.out];rfl,HB.out⟩
 rw[h1] at HF
 cases h2:(a != b)
 · rw[h2] at HF
   go_enter Tryz.func127,Tryz.ntmps127
   go_wp2_with (go_at_call 77;refine(l1In_any _ _ _ _).mono ?_;rintro e w' ⟨rfl,rfl⟩)
   go_ret
   exact⟨by rw[HF.out];rfl,HB.out⟩
 rw[h2] at HF
 cases h3:inB r 1 1000
 · rw[h3] at HF
   go_enter Tryz.func127,Tryz.ntmps127
   go_wp2_with (go_at_call 77;refine(l1In_any _ _ _ _).mono ?_;rintro e w' ⟨rfl,rfl⟩)
   go_ret
   exact⟨by rw[HF.out];rfl,HB.out⟩
 rw[h3] at HF
 go_enter Tryz.func127,Tryz.ntmps127
 go_wp2_with (go_at_call 77;refine(l1In_any _ _ _ _).mono ?_;rintro e w' ⟨rfl,rfl⟩)
 go_ret
 exact⟨by rw[HF.out];rfl,HB.out⟩
theorem isDemand_any (a1 a2:Option Addr) (m c1 n2 c2:Nat) (d:Dem) (w:World) (hm:m≤1000):
 Calls Tryz.prog 81 #[.agg #[.slice a1 m c1,.slice a2 n2 c2],demV d] w fun e w'=>e= .returned (.bool (demOk d m))∧Below w.heap.size w w':=by
 obtain⟨a,b,r,c⟩:=d
 have hal:=(ξb w.heap.size w).alloc (ξr _) (.cells #[.slice a1 m c1,.slice a2 n2 c2] 35)
 have HB:=ξh (hal.alloc hal.size (.cells #[.int .i64 a,.int .i64 b,.int .i64 r,.int .i64 c] 53))
 have HF:=ξh (show demOk ⟨a,b,r,c⟩ m=(inB a 0 ((m:Int)-1)&&inB b 0 ((m:Int)-1)&&(a != b)&&inB r 1 1000&&inB c 0 2) from rfl)
 generalize demOk ⟨a,b,r,c⟩ m=q at *
 unfold demV
 clear hal
 cases h0:inB a 0 ((m:Int)-1)
 · rw[h0] at HF
   go_enter Tryz.func81,Tryz.ntmps81
   go_wp2_with (go_at_call 74;refine(within_any _ _ _ _).mono ?_;rintro e w' ⟨rfl,rfl⟩)
   go_ret
   exact⟨by rw[HF.out];rfl,HB.out⟩
 rw[h0] at HF
 cases h1:inB b 0 ((m:Int)-1)
 · rw[h1] at HF
   go_enter Tryz.func81,Tryz.ntmps81
   go_wp2_with (go_at_call 74;refine(within_any _ _ _ _).mono ?_;rintro e w' ⟨rfl,rfl⟩)
   go_ret
   exact⟨by rw[HF.out];rfl,HB.out⟩
 rw[h1] at HF
 cases h2:(a != b)
 · rw[h2] at HF
   go_enter Tryz.func81,Tryz.ntmps81
   go_wp2_with (go_at_call 74;refine(within_any _ _ _ _).mono ?_;rintro e w' ⟨rfl,rfl⟩)
   go_ret
   exact⟨by rw[HF.out];rfl,HB.out⟩
 rw[h2] at HF
 cases h3:inB r 1 1000
 · rw[h3] at HF
   go_enter Tryz.func81,Tryz.ntmps81
   go_wp2_with (go_at_call 74;refine(within_any _ _ _ _).mono ?_;rintro e w' ⟨rfl,rfl⟩)
   go_ret
   exact⟨by rw[HF.out];rfl,HB.out⟩
 rw[h3] at HF
 go_enter Tryz.func81,Tryz.ntmps81
 go_wp2_with (go_at_call 74;refine(within_any _ _ _ _).mono ?_;rintro e w' ⟨rfl,rfl⟩)
 go_ret
 exact⟨by rw[HF.out];rfl,HB.out⟩
end Go.Proofs.YtofcicomhnkocaaGreat
