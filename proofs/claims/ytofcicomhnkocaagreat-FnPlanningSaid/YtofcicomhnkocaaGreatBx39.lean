import Derived.Test.YtofcicomhnkocaaGreatBx35
import Derived.Test.YtofcicomhnkocaaGreatBx36
set_option linter.unusedVariables false
namespace Go.Proofs.YtofcicomhnkocaaGreat
set_option maxHeartbeats 3200000
open Go.RowKit Go.Sort
set_option maxRecDepth 100000
theorem ξcK (v vf vg:Value) (n:Net) (fs:List Fmt) (gs:List Gro) (w:World) (h:NetR w v n) (hf:Rdt w (flt 2 fmE fs) vf) (hg:Rdt w (flt 6 groE gs) vg):
 Calls Tryz.prog 32 #[v,vf,vg] w (BlgP n fs gs w):=by
 obtain⟨NP,hNP⟩:∃NP,NP=BlgP n fs gs w:=⟨_,rfl⟩
 rw[←hNP]
 have HNP:=ξh hNP
 have HP:=ξh (fun w' (hb:Below w.heap.size w w')=>ξbN v vf vg n fs gs w' (h.behind hb) (hf.behind hb) (hg.behind hb))
 have hnet:=h
 obtain⟨u1,u2,rfl,-,-,-⟩:=h
 obtain⟨⟨a1,m1,c1,rfl⟩,a2,m2,c2,rfl⟩:=ξF hnet
 obtain⟨af,mf,cf,rfl,-,-,-,-⟩:=ξC (m:=2) (enc:=fmE) (fun _=>rfl) (by omega) ξJ hf
 obtain⟨ag,mg,cg,rfl,-,-,-,-⟩:=ξC (m:=6) (enc:=groE) (fun _=>rfl) (by omega) nilG hg
 have HB1:=ξh ((ξb w.heap.size w).alloc (ξr _) (.cells #[.slice a1 m1 c1,.slice a2 m2 c2] 35))
 clear hnet hf hg hNP
 go_enter Tryz.func32,Tryz.ntmps32
 go_wp2_with fail
 generalize w.alloc (.cells #[.slice a1 m1 c1,.slice a2 m2 c2] 35)=w1 at *
 refine(HP.out w1 HB1.out).mono ?_
 rintro e w2 ⟨b2,aw,ms,cs,a,m,c,rfl,hpl⟩
 have HB2:=ξh (HB1.trans (b2.mono HB1.size))
 have HB3:=ξh (HB2.alloc HB2.size (.cells #[.slice aw ms cs,.slice a m c] 95))
 cases hO:ξR n fs gs with
 | none=>
   obtain⟨k1,k2⟩:=ξap hO
   have HB4:=ξh (HB3.alloc HB3.size (.cells #[] 3))
   have HE:=ξh (⟨k1,k2⟩:ξai n fs gs=[]∧ξa0 n fs gs=false)
   have HO4:=ξh (show Own ((w2.alloc (.cells #[.slice aw ms cs,.slice a m c] 95)).alloc (.cells #[] 3)) w.heap.size (.slice (some ⟨w2.heap.size+1,0,none⟩) 0 0) [] from by have:=(ξaG (w2.alloc (.cells #[.slice aw ms cs,.slice a m c] 95)) 3).mono HB3.size;simpa using this)
   rw[k2]
   clear b2 hpl hO k1 k2
   go_wp2
   rw[HNP.out]
   exact⟨.slice (some ⟨w2.heap.size+1,0,none⟩) 0 0,by rw[HE.2];rfl,by rw[HE.1];exact HO4.ofr,HB4.out⟩
 | some x=>
   have HE:=ξh (ξaf hO).2.2
   have HO:=ξh (((hpl x.1 x.2 hO).2.1.mono HB1.size).belowAll ((ξb w2.heap.size w2).alloc (ξr _) (.cells #[.slice aw ms cs,.slice a m c] 95)))
   rw[HE.out]
   clear b2 hpl hO
   go_wp2
   rw[HNP.out]
   exact⟨_,by rw[HE.out];rfl,HO.ofr,HB3.out⟩
open Go.RowKit
section
variable {α : Type}
theorem rws_take {en:α→List Dt} {m:Nat} {w:World} {a:Option Addr} {n cap k:Nat} {zs:List α} (hm:∀z,(en z).length=m) (hm0:0<m) (nil:α) (h:Rdt w (rws m en zs) (.slice a n cap)) (hk:k≤n):Rdt w (rws m en (zs.take k)) (.slice a k cap):=by
 unfold rws at h ⊢
 have hlen:=rws_len hm zs
 have hlk:=rws_len hm (zs.take k)
 have hat:∀j,j<(zs.take k).length*m→((zs.take k).flatMap en)[j]?= (zs.flatMap en)[j]?:=fun j hj=>by
  obtain⟨i,r,hr,rfl⟩:∃i r,r<m∧j=i*m+r:=⟨j/m,j%m,Nat.mod_lt _ hm0,by rw[Nat.mul_comm];exact(Nat.div_add_mod j m).symm⟩
  have hi:i<(zs.take k).length:=by
   by_cases e:i<(zs.take k).length
   · exact e
   · have:=Nat.mul_le_mul_right m (Nat.le_of_not_lt e);omega
  have hi2:i<zs.length:=by rw[List.length_take] at hi;omega
  have hik:i<k:=by rw[List.length_take] at hi;omega
  rw[rws_at hm nil (zs.take k) hi hr,rws_at hm nil zs hi2 hr,List.getElem?_take,if_pos hik]
 generalize zs.flatMap en=ds at *
 generalize (zs.take k).flatMap en=ds' at *
 cases h with
 | nil size=>
   obtain rfl:k=0:=by omega
   have:ds'=[]:=List.eq_nil_of_length_eq_zero (by simpa using hlk)
   rw[this];exact .nil m
 | @mk size n b off cap ds us hl hu hn hc hb hcell hd=>
   have hzl:zs.length=n:=Nat.eq_of_mul_eq_mul_right hm0 (by omega)
   have hkl:(zs.take k).length=k:=by rw[List.length_take];omega
   rw[hkl] at hlk hat
   have hkm:=Nat.mul_le_mul_right m hk
   refine .mk (us:=us.take (k*m)) hlk (by rw[List.length_take,hlk];omega) (by omega) hc hb (fun j u hj=> ?_) (fun j d u e1 e2=> ?_)
   · rw[List.getElem?_take] at hj
     split at hj
     · exact hcell j u hj
     · cases hj
   · rw[List.getElem?_take] at e2
     split at e2
     · rename_i hjk
       rw[hat j hjk] at e1
       exact hd j d u e1 e2
     · cases e2
end
theorem bits_meet {f c g d:Nat} (hc:0<c) (hd:0<d) (h1:f+c≤24) (h2:g+d≤24):(bits .and .i64 (mskN f c:Int) (mskN g d:Int) != 0)=decide ((f:Int)<g+d∧(g:Int)<f+c):=by
 rw[bits_and (ξbv f c h1) (ξbv g d h2),Bool.eq_iff_iff,bne_iff_ne,decide_eq_true_eq]
 have:=mskN_meet f c g d hc hd
 omega
open Go.RowKit Go.Sort Go.Lib
theorem compactI_own (v:Value) (xs:List Int) (base:Nat) (w:World) (h:Own w base v xs) (hl:xs.length≤1099511627776):
 Calls Tryz.prog 180 #[v] w fun e w'=>∃v',e= .returned v'∧v'.ownBlock=v.ownBlock∧Own w' base v' (cpt xs)∧w.grownBy w' v.ownBlock:=by
 have h0:=h
 rcases h with ⟨rfl,rfl⟩ | ⟨g,off,cap,cur,rfl,hb,⟨T,hg⟩,h1,h2,h3,h4⟩
 · refine(Tryz.slices_Compact_int_empty none 0 w).mono ?_
   rintro e w' ⟨rfl,rfl⟩
   exact⟨_,rfl,rfl,.inl ⟨rfl,rfl⟩,⟨rfl,rfl,rfl,ξr _,fun _ _ _=>rfl⟩⟩
 · refine(Tryz.slices_Compact_int g off cap xs w h0.holds (by omega) h1).mono ?_
   rintro e w' ⟨rfl,n,rfl⟩
   have hle:(Lib.compact xs).length≤xs.length:=cpt_len xs
   have hT:(Lib.compact xs++List.replicate (xs.length-(Lib.compact xs).length) 0).length=xs.length:=by rw[ξk,List.length_replicate];omega
   have:=h0.putRow (q:=n) (os:=#[]) (ts:=Lib.compact xs++List.replicate (xs.length-(Lib.compact xs).length) 0) (m:=(Lib.compact xs).length) hT (by omega)
   rw[List.take_left,grow_empty] at this
   have g2:=ξbV (w:=w) (g:=g) (off:=off) (n:=n) (os:=#[]) (Lib.compact xs++List.replicate (xs.length-(Lib.compact xs).length) 0).toArray
   rw[grow_empty] at g2
   exact⟨_,rfl,rfl,this,g2⟩
def cmn (xs ys:List Int):List Int:=xs.filter fun x=>ys.contains x
theorem cmn_yes {xs ys:List Int} {k:Nat} (hk:k<xs.length) (h:ys.contains (xs[k]?.getD 0)=true):cmn (xs.take (k+1)) ys=cmn (xs.take k) ys++[xs[k]?.getD 0]:=by
 rw[ξg hk] at h ⊢
 unfold cmn
 rw[List.take_add_one,List.filter_append,ξg hk]
 simpa using h
theorem cmn_no {xs ys:List Int} {k:Nat} (hk:k<xs.length) (h:ys.contains (xs[k]?.getD 0)=false):cmn (xs.take (k+1)) ys=cmn (xs.take k) ys:=by
 rw[ξg hk] at h
 unfold cmn
 rw[List.take_add_one,List.filter_append,ξg hk]
 simpa using h
theorem cmn_len (xs ys:List Int):(cmn xs ys).length≤xs.length:=List.length_filter_le _ _
theorem common_any (va vb:Value) (xs ys:List Int) (w:World) (ha:Rd w va xs) (hb:Rd w vb ys) (hl:xs.length≤1100000):
 Calls Tryz.prog 143 #[va,vb] w fun e w'=>∃v',e= .returned v'∧Own w' w.heap.size v' (ust (cmn xs ys))∧Below w.heap.size w w':=by
 obtain⟨a,ca,n,HN,rfl,_,hn,hca⟩:=ha.opn
 have HC:=ξh (fun x w' (hw:Below w.heap.size w w')=>ξbl vb ys x w' (hb.belowAll hw))
 obtain⟨b,cb,m,-,rfl,-,-,-⟩:=hb.opn
 have HA:=ξh hca
 have HY:=ξh (fun k h1 h2=>@cmn_yes xs ys k h1 h2)
 have HZ:=ξh (fun k h1 h2=>@cmn_no xs ys k h1 h2)
 have HL:=ξh (fun k=>ξs (cmn_len (xs.take k) ys) (List.length_take_le k xs))
 have HT:=ξh (show xs.take n=xs from List.take_of_length_le (Nat.le_of_eq HN.out))
 have h10:n≤1100000:=by have:=HN.out;omega
 have HO0:=ξh (ξaG w 3)
 have HB0:=ξh ((ξb w.heap.size w).alloc (ξr _) (.cells #[] 3))
 have hN:=HN.out
 rw[hN] at HY HZ
 clear hca ha hb hN
 go_enter Tryz.func143,Tryz.ntmps143
 go_wp2
 go_loopw [5,7,11] (fun s5 _ i wr=>∃k:Nat,k≤n∧i= .int .i64 k∧Hid (Own wr w.heap.size s5 (cmn (xs.take k) ys))∧Hid (Below w.heap.size w wr)) (fun _ _ i _=>n-(intOf i).toNat)
 case atStart=>exact⟨0,ξu _,rfl,HO0.out,HB0.out⟩
 case round=>
  obtain⟨k,hk,rfl,HO,HB⟩:=hrel
  obtain⟨aR,cR,nR,HNR,rfl,hcR,hnR,-⟩:=HO.rd.opn
  by_cases hlt:k<n
  · have hltI:(k:Int)<(n:Int):=by omega
    obtain⟨b',off,rfl,hbs,hcs⟩:=HA.out (by omega)
    have c0:=(HB.cell (p:=⟨b',off+k,none⟩) hbs).trans (hcs k hlt)
    have HY1:=ξh (HY.out k hlt)
    have HZ1:=ξh (HZ.out k hlt)
    have HLO:=ξh (show(cmn (xs.take k) ys).length≤4000000 by have:=HL.out k;omega)
    have HC1:=ξh (HC.out (xs[k]?.getD 0) wr HB.out)
    clear hcs
    generalize xs[k]?.getD 0=x at *
    generalize cmn (xs.take k) ys=out at *
    cases hcn:ys.contains x
    · have HE:=ξh (HZ1.out hcn)
      rw[hcn] at HC1
      clear hcn
      go_wp2_with (go_at_call 65;refine(HC1.out).mono ?_;rintro e w' ⟨rfl,rfl⟩)
      go_roundw
      case rel=>exact⟨k+1,hlt,by go_num,by rw[HE.out];exact HO.out,HB.out⟩
      case measure=>simp[intOf];omega
    · have HE:=ξh (HY1.out hcn)
      rw[hcn] at HC1
      clear hcn
      go_wp2_with (first
       | (go_at_call 65;refine(HC1.out).mono ?_;rintro e w' ⟨rfl,rfl⟩)
       | (at_builtin;go_loud (refine ξa6 rfl (.tmp 18) (.tmp 20) 58 rfl Tryz.underlying58 Tryz.infoI w.heap.size (.slice aR nR cR) out rfl HO.out rfl HLO.out HB.size ?_);intro v5 w5 o5 g5 l5;have HO5:=ξh o5;have HB5:=ξh (HB.grown g5 HB.size (fun q hq=>(HO.lt q hq).1));clear o5 g5 l5))
      go_roundw
      case rel=>exact⟨k+1,hlt,by go_num,by rw[HE.out];exact HO5.out,HB5.out⟩
      case measure=>simp[intOf];omega
  · obtain rfl:n=k:=by omega
    have HLO:=ξh (show(cmn (xs.take n) ys).length≤4000000 by have:=HL.out n;omega)
    rw[HT.out] at HO HLO
    go_wp2_with fail
    refine(sortI_own _ (cmn xs ys) w.heap.size _ HO.out (ξs HLO.out (by decide))).mono ?_
    rintro e w2 ⟨rfl,o2,g2⟩
    have HB2:=ξh (HB.grown g2 HB.size (fun q hq=>(HO.lt q hq).1))
    have HO2:=ξh o2
    have HLS:=ξh (show(srt (cmn xs ys)).length≤1099511627776 by rw[srt_len];exact ξs HLO.out (by decide))
    clear o2 g2
    go_wp2_with fail
    refine(compactI_own _ (srt (cmn xs ys)) w.heap.size w2 HO2.out HLS.out).mono ?_
    rintro e w3 ⟨v3,rfl,-,o3,g3⟩
    have HB3:=ξh (HB2.grown g3 HB2.size (fun q hq=>(HO2.lt q hq).1))
    have HO3:=ξh o3
    obtain⟨a3,c3,n3,-,rfl,-⟩:=o3.rd.opn
    clear o3 g3
    go_wp2
    go_ret
    exact⟨_,rfl,HO3.out,HB3.out⟩
theorem meets_yes {xs ys:List Int} {k:Nat} (hk:k<xs.length) (h:ys.contains (xs[k]?.getD 0)=true):ξa9 xs ys=true:=by
 rw[ξg hk] at h
 unfold ξa9
 rw[List.any_eq_true]
 exact⟨xs[k],ξj hk,h⟩
theorem meets_more {xs ys:List Int} {k:Nat} (hk:k<xs.length) (h:ξa9 (xs.take k) ys=false) (h2:ys.contains (xs[k]?.getD 0)=false):ξa9 (xs.take (k+1)) ys=false:=by
 rw[ξg hk] at h2
 unfold ξa9 at h ⊢
 rw[List.take_add_one,List.any_append,h,ξg hk]
 simpa using h2
theorem meets_cmn (xs ys:List Int):ξa9 xs ys=decide (0<(ust (cmn xs ys)).length):=by
 rw[Bool.eq_iff_iff,decide_eq_true_eq]
 unfold ξa9
 rw[List.any_eq_true]
 constructor
 · rintro⟨x,hx,hy⟩
   have:x∈ust (cmn xs ys):=ξb3.2 (List.mem_filter.2 ⟨hx,hy⟩)
   exact List.length_pos_of_mem this
 · intro h
   obtain⟨x,hx⟩:=List.exists_mem_of_length_pos h
   have:=List.mem_filter.1 (ξb3.1 hx)
   exact⟨x,this.1,this.2⟩
theorem l4Uses_any (va vb:Value) (r:Rou) (ys:List Int) (w:World) (ha:Rd w va r.fb) (hb:Rd w vb ys):
 Calls Tryz.prog 183 #[.agg #[.int .i64 r.st,va],vb] w fun e w'=>e= .returned (.bool (ξa9 r.fb ys))∧Below w.heap.size w w':=by
 obtain⟨a,ca,n,HN,rfl,_,hn,hca⟩:=ha.opn
 have HC:=ξh (fun x w' (hw:Below w.heap.size w w')=>ξbh vb ys x w' (hb.belowAll hw))
 obtain⟨b,cb,m,-,rfl,-,-,-⟩:=hb.opn
 obtain⟨bx,bc,blt,-⟩:=ξD w #[.int .i64 r.st,.slice a n ca] 82
 have q1:=bc 1 _ rfl
 have HBX:=ξh bx
 have HA:=ξh hca
 have HY:=ξh (fun k h1 h2=>@meets_yes r.fb ys k h1 h2)
 have HZ:=ξh (fun k h1 h2 h3=>@meets_more r.fb ys k h1 h2 h3)
 have HT:=ξh (show r.fb.take n=r.fb from List.take_of_length_le (Nat.le_of_eq HN.out))
 rw[HN.out] at HY HZ
 clear hca ha hb bc bx
 generalize hxs:r.fb=xs at *
 go_enter Tryz.func183,Tryz.ntmps183
 go_wp2
 generalize w.alloc (.cells #[.int .i64 r.st,.slice a n ca] 82)=w2 at *
 go_loopw [5] (fun i wr=>∃k:Nat,k≤n∧i= .int .i64 k∧Hid (ξa9 (xs.take k) ys=false)∧wr=w2) (fun i _=>n-(intOf i).toNat)
 case atStart=>exact⟨0,ξu _,rfl,rfl,rfl⟩
 case round=>
  obtain⟨k,hk,rfl,HM,rfl⟩:=hrel
  by_cases hlt:k<n
  · have hltI:(k:Int)<(n:Int):=by omega
    obtain⟨b',off,rfl,hbs,hcs⟩:=HA.out (by omega)
    have c0:=(HBX.cell (p:=⟨b',off+k,none⟩) hbs).trans (hcs k hlt)
    have HY1:=ξh (HY.out k hlt)
    have HZ1:=ξh (HZ.out k hlt HM.out)
    have HC1:=ξh (HC.out (xs[k]?.getD 0) wr HBX.out)
    clear hcs
    generalize xs[k]?.getD 0=x at *
    cases hcn:ys.contains x
    · have HE:=ξh (HZ1.out hcn)
      rw[hcn] at HC1
      clear hcn
      go_wp2_with (go_at_call 59;refine(HC1.out).mono ?_;rintro e w' ⟨rfl,rfl⟩)
      go_roundw
      case rel=>exact⟨k+1,hlt,by go_num,HE.out,trivial⟩
      case measure=>simp[intOf];omega
    · have HE:=ξh (HY1.out hcn)
      rw[hcn] at HC1
      clear hcn
      go_wp2_with (go_at_call 59;refine(HC1.out).mono ?_;rintro e w' ⟨rfl,rfl⟩)
      go_ret
      exact⟨by rw[HE.out];rfl,HBX.out⟩
  · obtain rfl:n=k:=by omega
    rw[HT.out] at HM
    go_wp2
    go_ret
    exact⟨by rw[HM.out];rfl,HBX.out⟩
theorem collide_any (v1 v2:Value) (x y:Lgt) (w:World) (h1:Rd w v1 x.fb) (h2:Rd w v2 y.fb) (hb1:ξac x.fi x.ct=true) (hb2:ξac y.fi y.ct=true) (hl:x.fb.length≤1100000):
 Calls Tryz.prog 94 #[.agg #[.int .i64 x.id,.int .i64 x.st,v1,.int .i64 x.fi,.int .i64 x.ct],.agg #[.int .i64 y.id,.int .i64 y.st,v2,.int .i64 y.fi,.int .i64 y.ct]] w fun e w'=>e= .returned (.bool (ξY x y))∧Below w.heap.size w w':=by
 have HC:=ξh (fun w' (hb:Below w.heap.size w w')=>common_any v1 v2 x.fb y.fb w' (h1.belowAll hb) (h2.belowAll hb) hl)
 have HM:=ξh (meets_cmn x.fb y.fb)
 have hd1:=ξb4 hb1
 have hd2:=ξb4 hb2
 obtain⟨a1,c1,m1,-,rfl,-,-,-⟩:=h1.opn
 obtain⟨a2,c2,m2,-,rfl,-,-,-⟩:=h2.opn
 have HF:=ξh (show ξY x y=(decide (x.fi<y.fi+y.ct∧y.fi<x.fi+x.ct)&&ξa9 x.fb y.fb) from rfl)
 obtain⟨bx,bc,blt,-⟩:=ξD w #[.int .i64 x.id,.int .i64 x.st,.slice a1 m1 c1,.int .i64 x.fi,.int .i64 x.ct] 86
 obtain⟨by',bd,bmt,-⟩:=ξD (w.alloc (.cells #[.int .i64 x.id,.int .i64 x.st,.slice a1 m1 c1,.int .i64 x.fi,.int .i64 x.ct] 86)) #[.int .i64 y.id,.int .i64 y.st,.slice a2 m2 c2,.int .i64 y.fi,.int .i64 y.ct] 86
 have q2:=(by'.cell (p:=⟨w.heap.size,2,none⟩) blt).trans (bc 2 _ rfl)
 have q3:=(by'.cell (p:=⟨w.heap.size,3,none⟩) blt).trans (bc 3 _ rfl)
 have q4:=(by'.cell (p:=⟨w.heap.size,4,none⟩) blt).trans (bc 4 _ rfl)
 have l2:=bd 2 _ rfl
 have l3:=bd 3 _ rfl
 have l4:=bd 4 _ rfl
 have hs1:(w.alloc (.cells #[.int .i64 x.id,.int .i64 x.st,.slice a1 m1 c1,.int .i64 x.fi,.int .i64 x.ct] 86)).heap.size=w.heap.size+1:=by simp
 rw[hs1] at l2 l3 l4 bmt
 have blt2:=ξq blt by'.size
 have HBX:=ξh (bx.trans (by'.mono bx.size))
 clear bc bd bx by' hs1 blt h1 h2 hb1 hb2
 generalize ξY x y=q at *
 generalize ξa9 x.fb y.fb=mt at *
 generalize cmn x.fb y.fb=cm at *
 generalize x.fi=xf at *
 generalize y.fi=yf at *
 generalize x.ct=xc at *
 generalize y.ct=yc at *
 obtain⟨f,rfl⟩:∃f:Nat,xf=(f:Int):=⟨xf.toNat,by omega⟩
 obtain⟨g,rfl⟩:∃f:Nat,yf=(f:Int):=⟨yf.toNat,by omega⟩
 obtain⟨c,rfl⟩:∃f:Nat,xc=(f:Int):=⟨xc.toNat,by omega⟩
 obtain⟨d,rfl⟩:∃f:Nat,yc=(f:Int):=⟨yc.toNat,by omega⟩
 have HX:=ξh (fun w=>ξbn f c w (by omega))
 have HY:=ξh (fun w=>ξbn g d w (by omega))
 have hbm:=bits_meet (f:=f) (c:=c) (g:=g) (d:=d) (by omega) (by omega) (by omega) (by omega)
 clear hd1 hd2
 generalize mskN f c=s1 at *
 generalize mskN g d=s2 at *
 go_enter Tryz.func94,Tryz.ntmps94
 go_wp2
 generalize (w.alloc (.cells #[.int .i64 x.id,.int .i64 x.st,.slice a1 m1 c1,.int .i64 f,.int .i64 c] 86)).alloc (.cells #[.int .i64 y.id,.int .i64 y.st,.slice a2 m2 c2,.int .i64 g,.int .i64 d] 86)=w2 at *
 cases hd:decide ((f:Int)<g+d∧(g:Int)<f+c)
 · rw[hd] at hbm HF
   clear hd
   have j2:=rg q2
   have j3:=rg q3
   have j4:=rg q4
   have k2:=rg l2
   have k3:=rg l3
   have k4:=rg l4
   refine ξv ?_
   repeat (go_big_quiet_step (first | (go_at_call 142;first | (with_reducible exact Calls.regrown_of (HX.out _)) | (with_reducible exact Calls.regrown_of (HY.out _)))))
   refine wpQuiet_nil ?_
   rintro _ ⟨⟨dq,osq⟩,rfl⟩
   go_wp2
   go_ret
   exact⟨by rw[HF.out];rfl,HBX.trans ((ξc _ dq osq).mono HBX.size)⟩
 rw[hd] at hbm HF
 clear hd
 have HS:=ξh (fun(w':World) (hb:Below w2.heap.size w2 w')=>show Below w2.heap.size w2 w'∧w'.cell? ⟨w.heap.size,2,none⟩=some (.slice a1 m1 c1)∧w'.cell? ⟨w.heap.size,3,none⟩=some (.int .i64 f)∧w'.cell? ⟨w.heap.size,4,none⟩=some (.int .i64 c)∧w'.cell? ⟨w.heap.size+1,2,none⟩=some (.slice a2 m2 c2)∧w'.cell? ⟨w.heap.size+1,3,none⟩=some (.int .i64 g)∧w'.cell? ⟨w.heap.size+1,4,none⟩=some (.int .i64 d) from
  ⟨hb,(hb.cell blt2).trans q2,(hb.cell blt2).trans q3,(hb.cell blt2).trans q4,(hb.cell bmt).trans l2,(hb.cell bmt).trans l3,(hb.cell bmt).trans l4⟩)
 have HBS:=ξh (fun(wx w':World) (hb:Below w2.heap.size w2 wx) (hc:Below wx.heap.size wx w')=>show Below w2.heap.size w2 w' from hb.trans (hc.mono hb.size))
 have HCB:=ξh (fun(w':World) (hb:Below w2.heap.size w2 w')=>HC.out w' (HBX.trans (hb.mono HBX.size)))
 have s0:Below w2.heap.size w2 w2.drew:=(ξb w2.heap.size w2).drew
 clear q2 q3 q4 l2 l3 l4
 go_region_held3 (fun w'=>Below w2.heap.size w2 w'∧w'.cell? ⟨w.heap.size,2,none⟩=some (.slice a1 m1 c1)∧w'.cell? ⟨w.heap.size,3,none⟩=some (.int .i64 f)∧w'.cell? ⟨w.heap.size,4,none⟩=some (.int .i64 c)∧w'.cell? ⟨w.heap.size+1,2,none⟩=some (.slice a2 m2 c2)∧w'.cell? ⟨w.heap.size+1,3,none⟩=some (.int .i64 g)∧w'.cell? ⟨w.heap.size+1,4,none⟩=some (.int .i64 d))
  (first | exact HS.out _ (by assumption))
  (first
    | (go_at_call 142;first | ((with_reducible refine(HX.out _).mono ?_);rintro e w5 ⟨rfl,b5⟩;have s5:=HBS.out _ _ (And.left (by assumption)) b5;clear b5) | ((with_reducible refine(HY.out _).mono ?_);rintro e w6 ⟨rfl,b6⟩;have s6:=HBS.out _ _ (And.left (by assumption)) b6;clear b6))
    | (go_at_call 143;go_loud (refine(HCB.out _ (And.left (by assumption))).mono ?_;rintro e w7 ⟨v7,rfl,o7,b7⟩;obtain⟨a7,c7,n7,HN7,rfl,-,hn7,-⟩:=o7.rd.opn;have s7:=HBS.out _ _ (And.left (by assumption)) b7;clear b7 o7)))
 all_goals
  go_wp2
  go_ret
  exact⟨by rw[HF.out,HM.out,HN7.out];rfl,HBX.trans (s7.mono HBX.size)⟩
theorem ξcf (v:Value) (zs:List Lgt) (F:FuncId) (b0:Nat) (p:Lgt→Bool) (w:World) (h:Rdt w (rws 5 lgtD zs) v) (hF:IsFn F)
 (hp:∀(i:Nat) (w':World),i<zs.length→Below w.heap.size w w'→ ∀z u,z=zs[i]?.getD nilL→Rd w' u z.fb→Calls Tryz.prog F #[.agg #[.int .i64 z.id,.int .i64 z.st,u,.int .i64 z.fi,.int .i64 z.ct],ptr b0] w' fun e w2=>e= .returned (.bool (p z))∧Below w'.heap.size w' w2):
 Calls Tryz.prog 92 #[v,.func (.func F) #[] #[ptr b0]] w fun e w'=>e= .returned (.bool (zs.any p))∧Below w.heap.size w w':=by
 have HI:=ξh (ξbz v zs F b0 p w h hF hp)
 have HG:=ξh (idxG_geq zs p)
 generalize idxG zs p=r at *
 generalize zs.any p=s at *
 obtain⟨a,n,cap,rfl,-⟩:=ξa1 h
 clear h hp hF
 go_enter Tryz.func92,Tryz.ntmps92
 go_wp2_with fail
 refine HI.mono ?_
 rintro e w2 ⟨rfl,b2⟩
 have HB:=ξh b2
 clear b2
 go_wp2
 go_ret
 exact⟨by rw[←HG.out];rfl,HB.out⟩
theorem blk_alt (f c:Int):ξac f c=(inB f 0 23&&inB c 1 (24-f)):=by
 unfold ξac inB
 rw[Bool.eq_iff_iff]
 simp only[Bool.and_eq_true,decide_eq_true_eq]
 omega
theorem ξcE (f c:Int) (w:World):
 Calls Tryz.prog 140 #[.agg #[.int .i64 f,.int .i64 c]] w fun e w'=>e= .returned (.bool (ξac f c))∧Below w.heap.size w w':=by
 obtain⟨bx,bc,-,-⟩:=ξD w #[.int .i64 f,.int .i64 c] 84
 have q0:=bc 0 _ rfl
 have q1:=bc 1 _ rfl
 have HBX:=ξh bx
 have HV:=ξh (show ξac f c=(decide (0≤f)&&(inB c 1 24&&decide (f≤24-c))) from rfl)
 clear bc bx
 generalize ξac f c=q at *
 cases h0:decide (0≤f)
 · rw[h0] at HV
   go_enter Tryz.func140,Tryz.ntmps140
   go_wp2
   go_ret
   exact⟨by rw[HV.out];rfl,HBX.out⟩
 rw[h0] at HV
 cases h1:inB c 1 24
 · rw[h1] at HV
   go_enter Tryz.func140,Tryz.ntmps140
   go_wp2_with (go_at_call 74;refine(ξE _ _ _ _).mono ?_;rintro e w' ⟨rfl,rfl⟩;rw[h1])
   go_ret
   exact⟨by rw[HV.out];rfl,HBX.out⟩
 rw[h1] at HV
 have hc:=ξO h1
 obtain⟨d,hd⟩:∃d,24-c=d:=⟨_,rfl⟩
 rw[hd] at HV
 have f1:IntKind.i64.wrap (24-c)=d:=by rw[←hd];exact ξi _ (by omega)
 have f2:wrap64 (24-c)=d:=by rw[←hd];exact ξw _ (by omega)
 clear hd hc
 cases h2:decide (f≤d)
 all_goals
  rw[h2] at HV
  go_enter Tryz.func140,Tryz.ntmps140
  go_wp2_with (go_at_call 74;refine(ξE _ _ _ _).mono ?_;rintro e w' ⟨rfl,rfl⟩;rw[h1])
  go_ret
  exact⟨by rw[HV.out];rfl,HBX.out⟩
theorem l8Good_any (f c:Int) (w:World):
 Calls Tryz.prog 182 #[.agg #[.int .i64 f,.int .i64 c]] w fun e w'=>e= .returned (.bool (ξac f c))∧Below w.heap.size w w':=by
 obtain⟨bx,bc,-,-⟩:=ξD w #[.int .i64 f,.int .i64 c] 84
 have q0:=bc 0 _ rfl
 have q1:=bc 1 _ rfl
 have HBX:=ξh bx
 have HV:=ξh (blk_alt f c)
 clear bc bx
 generalize ξac f c=q at *
 cases h1:inB f 0 23
 · rw[h1] at HV
   go_enter Tryz.func182,Tryz.ntmps182
   go_wp2_with (go_at_call 77;refine(ξI _ _ _ _).mono ?_;rintro e w' ⟨rfl,rfl⟩;rw[h1])
   go_ret
   exact⟨by rw[HV.out];rfl,HBX.out⟩
 rw[h1] at HV
 have hf:=ξO h1
 obtain⟨d,hd⟩:∃d,24-f=d:=⟨_,rfl⟩
 rw[hd] at HV
 have f1:IntKind.i64.wrap (24-f)=d:=by rw[←hd];exact ξi _ (by omega)
 have f2:wrap64 (24-f)=d:=by rw[←hd];exact ξw _ (by omega)
 clear hd hf
 cases h2:inB c 1 d
 all_goals
  rw[h2] at HV
  go_enter Tryz.func182,Tryz.ntmps182
  go_wp2_with (go_at_call 77;refine(ξI _ _ _ _).mono ?_;rintro e w' ⟨rfl,rfl⟩;first | rw[h1] | rw[h2])
  go_ret
  exact⟨by rw[HV.out];rfl,HBX.out⟩
/-! ### Routes -/
theorem wlk_step {n:Net} {out:List Int} {t:Int} {xs:List Int} {k:Nat} (hk:k<xs.length):wlk n out t (xs.drop k)=(if inB (xs[k]?.getD 0) 0 ((n.fs.length:Int)-1) then(if othE (fbA n (xs[k]?.getD 0).toNat) t<0∨othE (fbA n (xs[k]?.getD 0).toNat) t∈out then none else wlk n (out++[othE (fbA n (xs[k]?.getD 0).toNat) t]) (othE (fbA n (xs[k]?.getD 0).toNat) t) (xs.drop (k+1))) else none):=by
 rw[List.drop_eq_getElem_cons hk,ξg hk]
 rfl
/-! ### Blocks -/
/-! ### Lights -/
/-! ### Plans -/
def VisP (o:Option (List Int)) (w:World) (e:Ending) (w':World):Prop:=∃v,e= .returned (.tuple #[v,.bool o.isSome])∧(o.isSome=true→Own w' w.heap.size v (o.getD []))∧(∃a m c,v= .slice a m c)∧Below w.heap.size w w'
theorem VisP.no {o:Option (List Int)} {w w':World} {a:Option Addr} {m c:Nat} (h:o=none) (hb:Below w.heap.size w w'):VisP o w (.returned (.tuple #[.slice a m c,.bool false])) w':=by
 subst h
 exact⟨.slice a m c,rfl,(fun e=>(by cases e)),⟨_,_,_,rfl⟩,hb⟩
theorem VisP.yes {o:Option (List Int)} {w w':World} {a:Option Addr} {m c:Nat} {xs:List Int} (h:o=some xs) (ho:Own w' w.heap.size (.slice a m c) xs) (hb:Below w.heap.size w w'):VisP o w (.returned (.tuple #[.slice a m c,.bool true])) w':=by
 subst h
 exact⟨.slice a m c,rfl,fun _=>ho,⟨_,_,_,rfl⟩,hb⟩
theorem rouN_no1 {n:Net} {r:Rou} (h:inB r.st 0 ((n.ns.length:Int)-1)=false):rouN n r=none:=by unfold rouN;rw[h];rfl
theorem rouN_no2 {n:Net} {r:Rou} (h:r.fb.length=0):rouN n r=none:=by
 have:r.fb=[]:=List.eq_nil_of_length_eq_zero h
 unfold rouN;rw[this];simp
theorem rouN_go {n:Net} {r:Rou} (h:inB r.st 0 ((n.ns.length:Int)-1)=true) (h2:r.fb.length≠0):rouN n r=wlk n [r.st] r.st r.fb:=by
 have:r.fb.isEmpty=false:=by cases hh:r.fb <;> simp_all
 unfold rouN;rw[h,this];rfl
theorem visited_any (u1 u2 v3:Value) (n:Net) (r:Rou) (w:World) (h:NetR w (.agg #[u1,u2]) n) (hr:Rd w v3 r.fb) (hl:r.fb.length≤1100000):
 Calls Tryz.prog 139 #[.agg #[u1,u2],.agg #[.int .i64 r.st,v3]] w (VisP (rouN n r) w):=by
 obtain⟨x1,x2,e,r1,r2,hsm⟩:=h
 simp only[Value.agg.injEq,Array.mk.injEq,List.cons.injEq,and_true] at e
 obtain⟨rfl,rfl⟩:=e
 obtain⟨a1,m1,c1,rfl,HN1,hc1,hm1,-⟩:=ξC (m:=1) (enc:=strE) (fun _=>rfl) (by omega) nilS r1
 obtain⟨a2,m2,c2,rfl,HN2,hc2,hm2,ha2⟩:=ξC (m:=4) (enc:=fibE) (fun _=>rfl) (by omega) nilB r2
 obtain⟨a3,c3,m3,HN3,rfl,hc3,hm3,ha3⟩:=hr.opn
 have HO1:=ξh (@rouN_no1 n r)
 have HO2:=ξh (@rouN_no2 n r)
 have HO3:=ξh (@rouN_go n r)
 rw[HN1.out] at HO1 HO3
 rw[HN3.out] at HO2 HO3
 have HX:=ξh (fun w' a m c (hb:Below w.heap.size w w') (e:rouN n r=none)=>@VisP.no (rouN n r) w w' a m c e hb)
 have HY:=ξh (fun w' a m c xs (hb:Below w.heap.size w w') (ho:Own w' w.heap.size (.slice a m c) xs) (e:rouN n r=some xs)=>@VisP.yes (rouN n r) w w' a m c xs e ho hb)
 have h10:m3≤1100000:=by have:=HN3.out;omega
 have HA2:=ξh ha2
 have HA3:=ξh ha3
 obtain⟨bx,bc,blt,-⟩:=ξD w #[.slice a1 m1 c1,.slice a2 m2 c2] 35
 obtain⟨by',bd,bmt,-⟩:=ξD (w.alloc (.cells #[.slice a1 m1 c1,.slice a2 m2 c2] 35)) #[.int .i64 r.st,.slice a3 m3 c3] 82
 have q0:=(by'.cell (p:=⟨w.heap.size,0,none⟩) blt).trans (bc 0 _ rfl)
 have q1:=(by'.cell (p:=⟨w.heap.size,1,none⟩) blt).trans (bc 1 _ rfl)
 have q2:=bd 0 _ rfl
 have q3:=bd 1 _ rfl
 have hs1:(w.alloc (.cells #[.slice a1 m1 c1,.slice a2 m2 c2] 35)).heap.size=w.heap.size+1:=by simp
 rw[hs1] at q2 q3 bmt
 have HBX:=ξh (bx.trans (by'.mono bx.size))
 have blt2:=ξq blt by'.size
 clear bc bd bx by' hs1 ha2 ha3 r1 r2 blt hr
 go_enter Tryz.func139,Tryz.ntmps139
 cases hin:inB r.st 0 ((m1:Int)-1)
 · have HE:=ξh (HO1.out hin)
   go_wp2_with (go_at_call 74;refine(ξE _ _ _ _).mono ?_;rintro e w' ⟨rfl,rfl⟩;rw[hin])
   go_ret2
   exact HX.out _ _ _ _ HBX.out HE.out
 by_cases h0:m3=0
 · have HE:=ξh (HO2.out h0)
   have b1:((m3:Int)==0)=true:=by rw[beq_iff_eq];omega
   have b2:decide ((m3:Int)=0)=true:=ξt (by omega)
   clear h0
   go_wp2_with (go_at_call 74;refine(ξE _ _ _ _).mono ?_;rintro e w' ⟨rfl,rfl⟩;rw[hin])
   go_ret2
   exact HX.out _ _ _ _ HBX.out HE.out
 have HE:=ξh (HO3.out hin h0)
 have b1:((m3:Int)==0)=false:=by rw[beq_eq_false_iff_ne];omega
 have b2:decide ((m3:Int)=0)=false:=ξf (by omega)
 clear h0
 go_wp2_with (go_at_call 74;refine(ξE _ _ _ _).mono ?_;rintro e w' ⟨rfl,rfl⟩;rw[hin])
 generalize (w.alloc (.cells #[.slice a1 m1 c1,.slice a2 m2 c2] 35)).alloc (.cells #[.int .i64 r.st,.slice a3 m3 c3] 82)=w2 at *
 have hx1:¬w.heap.size=w2.heap.size:=by omega
 have hx2:¬w.heap.size+1=w2.heap.size:=by omega
 have HO0:=ξh (show Own (w2.drew.alloc (.cells #[.int .i64 r.st] 3)) w2.heap.size (.slice (some ⟨w2.heap.size,0,none⟩) 1 1) [r.st] from own_one w2.drew r.st 3)
 have HB0:=ξh (((ξb w2.heap.size w2).drew).alloc (ξr _) (.cells #[.int .i64 r.st] 3))
 go_cut [6,7] from 24 to 28 (fun s6 s7 wx=>s6= .slice (some ⟨w2.heap.size,0,none⟩) 1 1∧s7= .int .i64 r.st∧Hid (wx=w2.drew.alloc (.cells #[.int .i64 r.st] 3)))
 case first=>
  go_region_law (fail)
  all_goals
   go_wp2
   go_meet
   exact⟨rfl,rfl,rfl⟩
 case rest=>
 obtain⟨rfl,rfl,hw⟩:=hcut
 have hw:=hw.out
 subst hw
 generalize w2.drew.alloc (.cells #[.int .i64 r.st] 3)=w3 at *
 have g3:=(HB0.cell bmt).trans q3
 clear hx1 hx2 b1 b2 hin
 go_wp2
 clear g3
 go_loopw [6,7,9,32] (fun s6 s7 _ i wr=>∃(k:Nat) (out:List Int) (t:Int),k≤m3∧i= .int .i64 k∧s7= .int .i64 t∧Hid (Own wr w2.heap.size s6 out)∧Hid (out.length=k+1)∧Hid (wlk n [r.st] r.st r.fb=wlk n out t (r.fb.drop k))∧Hid (Below w2.heap.size w2 wr)) (fun _ _ _ i _=>m3-(intOf i).toNat)
 case atStart=>exact⟨0,[r.st],r.st,ξu _,rfl,rfl,HO0.out,rfl,rfl,HB0.out⟩
 case round=>
  obtain⟨k,out,t,hk,rfl,rfl,HOW,HLN,HW,HB⟩:=hrel
  obtain⟨aR,cR,nR,HNR,rfl,hcR,hnR,-⟩:=HOW.rd.opn
  by_cases hlt:k<m3
  · have hltI:(k:Int)<(m3:Int):=by omega
    have HST:=ξh (wlk_step (n:=n) (out:=out) (t:=t) (xs:=r.fb) (k:=k) (by rw[HN3.out];exact hlt))
    rw[HN2.out] at HST
    obtain⟨b,off,rfl,hbs,hcs⟩:=HA3.out (by omega)
    have p1:=(HB.cell (p:=⟨w.heap.size,1,none⟩) blt2).trans q1
    have c0:=(HB.cell (p:=⟨b,off+k,none⟩) (ξq hbs HBX.size)).trans ((HBX.cell (p:=⟨b,off+k,none⟩) hbs).trans (hcs k hlt))
    clear hcs
    generalize r.fb[k]?.getD 0=x at *
    cases hix:inB x 0 ((m2:Int)-1)
    · rw[hix] at HST
      have HF:=ξh (HE.trans (HW.trans HST.out))
      go_wp2_with (go_at_call 74;refine(ξE _ _ _ _).mono ?_;rintro e w' ⟨rfl,rfl⟩;rw[hix])
      go_ret2
      exact HX.out _ _ _ _ (HBX.trans (HB.mono HBX.size)) HF.out
    rw[hix] at HST
    obtain⟨hx0,hx9⟩:=ξO hix
    obtain⟨j,rfl⟩:∃j:Nat,x=(j:Int):=⟨x.toNat,by omega⟩
    have hj:j<m2:=by omega
    have hjI:(j:Int)<(m2:Int):=by omega
    obtain⟨b',off',rfl,hbs',hcs'⟩:=HA2.out (by omega)
    have hcw:=fun(r:Nat) (u:Value) (hu:(fibE (n.fs[j]?.getD nilB))[r]?= some u)=>(HB.cell (p:=⟨b',off'+j*4+r,none⟩) (ξq hbs' HBX.size)).trans ((HBX.cell hbs').trans (hcs' j hj r u hu))
    have d0:=hcw 0 _ rfl
    have d1:=hcw 1 _ rfl
    have d2:=hcw 2 _ rfl
    have d3:=hcw 3 _ rfl
    simp only[Nat.add_zero] at d0
    have HOE:=ξh (fun w=>ξcj (n.fs[j]?.getD nilB) t w)
    have HST2:=ξh (show wlk n out t (r.fb.drop k)=(if othE (n.fs[j]?.getD nilB) t<0∨othE (n.fs[j]?.getD nilB) t∈out then none else wlk n (out++[othE (n.fs[j]?.getD nilB) t]) (othE (n.fs[j]?.getD nilB) t) (r.fb.drop (k+1))) from HST.out)
    unfold fibV at HOE
    clear hcw hcs' HST hx0 hx9
    generalize n.fs[j]?.getD nilB=f at *
    generalize othE f t=o at *
    go_wp2_with (go_at_call 74;refine(ξE _ _ _ _).mono ?_;rintro e w' ⟨rfl,rfl⟩;rw[hix])
    refine(HOE.out _).mono ?_
    rintro e w4 ⟨rfl,b4⟩
    have HB4:=ξh (HB.trans (b4.mono HB.size))
    have HOW4:=ξh (HOW.belowAll b4)
    have HC4:=ξh (ξbl _ out o w4 HOW4.rd)
    clear b4 p1 c0 d0 d1 d2 d3 HOE hix
    by_cases ho:o<0
    · have HF:=ξh (HE.trans (HW.trans (HST2.trans (if_pos (.inl ho)))))
      have hd:decide (o<0)=true:=ξt ho
      clear ho
      go_wp2
      go_ret2
      exact HX.out _ _ _ _ (HBX.trans (HB4.mono HBX.size)) HF.out
    have hd:decide (o<0)=false:=ξf ho
    cases hcn:out.contains o
    case true=>
     have HF:=ξh (HE.trans (HW.trans (HST2.trans (if_pos (.inr (List.contains_iff_mem.1 hcn))))))
     rw[hcn] at HC4
     clear ho
     go_wp2_with (go_at_call 65;refine(HC4.out).mono ?_;rintro e w' ⟨rfl,rfl⟩)
     go_ret2
     exact HX.out _ _ _ _ (HBX.trans (HB4.mono HBX.size)) HF.out
    have HF:=ξh (HW.trans (HST2.trans (if_neg (fun h=>h.elim ho (fun h=>by rw[List.contains_iff_mem.2 h] at hcn;cases hcn)))))
    rw[hcn] at HC4
    clear ho hcn
    have HLO:=ξh (show out.length≤4000000 by have:=HLN.out;omega)
    go_wp2_with (first
     | (go_at_call 65;refine(HC4.out).mono ?_;rintro e w' ⟨rfl,rfl⟩)
     | (at_builtin;go_loud (refine ξa6 rfl (.tmp 57) (.tmp 59) 58 rfl Tryz.underlying58 Tryz.infoI w2.heap.size (.slice aR nR cR) out rfl HOW4.out rfl HLO.out HB4.size ?_);intro v5 w5 o5 g5 l5;have HO5:=ξh o5;have HB5:=ξh (HB4.grown g5 HB4.size (fun q hq=>(HOW4.lt q hq).1));clear o5 g5 l5))
    go_roundw
    case rel=>exact⟨k+1,out++[o],o,hlt,by go_num,rfl,HO5.out,by show(out++[o]).length=k+1+1;rw[ξk,HLN.out];rfl,HF.out,HB5.out⟩
    case measure=>simp[intOf];omega
  · obtain rfl:m3=k:=by omega
    have HF:=ξh (show rouN n r=some out by rw[HE.out,HW.out,List.drop_of_length_le (Nat.le_of_eq HN3.out)];rfl)
    go_wp2
    go_ret2
    exact HY.out _ _ _ _ _ (HBX.trans (HB.mono HBX.size)) (HOW.mono HBX.size) HF.out
theorem below_mono2 {w2 wr wx:World} (h:Below wr.heap.size wr wx) (h2:Below w2.heap.size w2 wr):Below w2.heap.size w2 wx:=h2.trans (h.mono h2.size)
theorem l4Walk_any (u1 u2 v3:Value) (n:Net) (r:Rou) (w:World) (h:NetR w (.agg #[u1,u2]) n) (hr:Rd w v3 r.fb) (hl:r.fb.length≤1100000):
 Calls Tryz.prog 213 #[.agg #[u1,u2],.agg #[.int .i64 r.st,v3]] w (VisP (rouN n r) w):=by
 obtain⟨x1,x2,e,r1,r2,hsm⟩:=h
 simp only[Value.agg.injEq,Array.mk.injEq,List.cons.injEq,and_true] at e
 obtain⟨rfl,rfl⟩:=e
 obtain⟨a1,m1,c1,rfl,HN1,hc1,hm1,-⟩:=ξC (m:=1) (enc:=strE) (fun _=>rfl) (by omega) nilS r1
 obtain⟨a2,m2,c2,rfl,HN2,hc2,hm2,ha2⟩:=ξC (m:=4) (enc:=fibE) (fun _=>rfl) (by omega) nilB r2
 obtain⟨a3,c3,m3,HN3,rfl,hc3,hm3,ha3⟩:=hr.opn
 have HO1:=ξh (@rouN_no1 n r)
 have HO2:=ξh (@rouN_no2 n r)
 have HO3:=ξh (@rouN_go n r)
 rw[HN1.out] at HO1 HO3
 rw[HN3.out] at HO2 HO3
 have HR2:=ξh r2
 have HX:=ξh (fun w' a m c (hb:Below w.heap.size w w') (e:rouN n r=none)=>@VisP.no (rouN n r) w w' a m c e hb)
 have HY:=ξh (fun w' a m c xs (hb:Below w.heap.size w w') (ho:Own w' w.heap.size (.slice a m c) xs) (e:rouN n r=some xs)=>@VisP.yes (rouN n r) w w' a m c xs e ho hb)
 have h10:m3≤1100000:=by have:=HN3.out;omega
 have HA2:=ξh ha2
 have HA3:=ξh ha3
 obtain⟨bx,bc,blt,-⟩:=ξD w #[.slice a1 m1 c1,.slice a2 m2 c2] 35
 obtain⟨by',bd,bmt,-⟩:=ξD (w.alloc (.cells #[.slice a1 m1 c1,.slice a2 m2 c2] 35)) #[.int .i64 r.st,.slice a3 m3 c3] 82
 have q0:=(by'.cell (p:=⟨w.heap.size,0,none⟩) blt).trans (bc 0 _ rfl)
 have q1:=(by'.cell (p:=⟨w.heap.size,1,none⟩) blt).trans (bc 1 _ rfl)
 have q2:=bd 0 _ rfl
 have q3:=bd 1 _ rfl
 have hs1:(w.alloc (.cells #[.slice a1 m1 c1,.slice a2 m2 c2] 35)).heap.size=w.heap.size+1:=by simp
 rw[hs1] at q2 q3 bmt
 have HBX:=ξh (bx.trans (by'.mono bx.size))
 have blt2:=ξq blt by'.size
 clear bc bd bx by' hs1 ha2 ha3 r1 r2 blt hr
 go_enter Tryz.func213,Tryz.ntmps213
 have hs2:((w.alloc (.cells #[.slice a1 m1 c1,.slice a2 m2 c2] 35)).alloc (.cells #[.int .i64 r.st,.slice a3 m3 c3] 82)).heap.size=w.heap.size+1+1:=by simp
 have HO0:=ξh (show Own (((w.alloc (.cells #[.slice a1 m1 c1,.slice a2 m2 c2] 35)).alloc (.cells #[.int .i64 r.st,.slice a3 m3 c3] 82)).alloc (.cells #[.int .i64 r.st] 3)) ((w.alloc (.cells #[.slice a1 m1 c1,.slice a2 m2 c2] 35)).alloc (.cells #[.int .i64 r.st,.slice a3 m3 c3] 82)).heap.size (.slice (some ⟨w.heap.size+1+1,0,none⟩) 1 1) [r.st] by rw[←hs2];exact own_one _ r.st 3)
 have HB0:=ξh ((ξb ((w.alloc (.cells #[.slice a1 m1 c1,.slice a2 m2 c2] 35)).alloc (.cells #[.int .i64 r.st,.slice a3 m3 c3] 82)).heap.size ((w.alloc (.cells #[.slice a1 m1 c1,.slice a2 m2 c2] 35)).alloc (.cells #[.int .i64 r.st,.slice a3 m3 c3] 82))).alloc (ξr _) (.cells #[.int .i64 r.st] 3))
 clear hs2
 have t0:=(HB0.cell blt2).trans q0
 have t1:=(HB0.cell blt2).trans q1
 have t2:=(HB0.cell bmt).trans q2
 have t3:=(HB0.cell bmt).trans q3
 cases hin:inB r.st 0 ((m1:Int)-1)
 · have HE:=ξh (HO1.out hin)
   go_wp2_with (go_at_call 77;refine(ξI _ _ _ _).mono ?_;rintro e w' ⟨rfl,rfl⟩;rw[hin])
   go_ret2
   exact HX.out _ _ _ _ (HBX.trans (HB0.mono HBX.size)) HE.out
 by_cases h0:m3=0
 · have HE:=ξh (HO2.out h0)
   have b1:((m3:Int)==0)=true:=by rw[beq_iff_eq];omega
   have b2:decide ((m3:Int)=0)=true:=ξt (by omega)
   clear h0
   go_wp2_with (go_at_call 77;refine(ξI _ _ _ _).mono ?_;rintro e w' ⟨rfl,rfl⟩;rw[hin])
   go_ret2
   exact HX.out _ _ _ _ (HBX.trans (HB0.mono HBX.size)) HE.out
 have HE:=ξh (HO3.out hin h0)
 have b1:((m3:Int)==0)=false:=by rw[beq_eq_false_iff_ne];omega
 have b2:decide ((m3:Int)=0)=false:=ξf (by omega)
 clear h0
 go_wp2_with (go_at_call 77;refine(ξI _ _ _ _).mono ?_;rintro e w' ⟨rfl,rfl⟩;rw[hin])
 generalize (w.alloc (.cells #[.slice a1 m1 c1,.slice a2 m2 c2] 35)).alloc (.cells #[.int .i64 r.st,.slice a3 m3 c3] 82)=w2 at *
 generalize w2.alloc (.cells #[.int .i64 r.st] 3)=w3 at *
 have blt3:=ξq blt2 HB0.size
 have bmt3:=ξq bmt HB0.size
 clear b1 b2 hin t0 t1 t2 t3
 go_loopw [6,7,8] (fun s6 i _ wr=>∃(k:Nat) (out:List Int) (t:Int),k≤m3∧i= .int .i64 k∧Hid (out[k]?.getD 0=t)∧Hid (Own wr w2.heap.size s6 out)∧Hid (out.length=k+1)∧Hid (wlk n [r.st] r.st r.fb=wlk n out t (r.fb.drop k))∧Hid (Below w2.heap.size w2 wr)) (fun _ i _ _=>m3-(intOf i).toNat)
 case atStart=>exact⟨0,[r.st],r.st,ξu _,rfl,rfl,HO0.out,rfl,rfl,HB0.out⟩
 case round=>
  obtain⟨k,out,t,hk,rfl,HLT,HOW,HLN,HW,HB⟩:=hrel
  obtain⟨aR,cR,nR,HNR,rfl,hcR,hnR,hcl⟩:=HOW.rd.opn
  by_cases hlt:k<m3
  · have hltI:(k:Int)<(m3:Int):=by omega
    have HST:=ξh (wlk_step (n:=n) (out:=out) (t:=t) (xs:=r.fb) (k:=k) (by rw[HN3.out];exact hlt))
    rw[HN2.out] at HST
    obtain⟨b,off,rfl,hbs,hcs⟩:=HA3.out (by omega)
    have p0:=(HB.cell (p:=⟨w.heap.size,0,none⟩) blt2).trans q0
    have p1:=(HB.cell (p:=⟨w.heap.size,1,none⟩) blt2).trans q1
    have p2:=(HB.cell (p:=⟨w.heap.size+1,0,none⟩) bmt).trans q2
    have p3:=(HB.cell (p:=⟨w.heap.size+1,1,none⟩) bmt).trans q3
    have c0:=(HB.cell (p:=⟨b,off+k,none⟩) (ξq hbs HBX.size)).trans ((HBX.cell (p:=⟨b,off+k,none⟩) hbs).trans (hcs k hlt))
    have hnk:nR=k+1:=by have:=HNR.out;have:=HLN.out;omega
    have hkR:k<nR:=by omega
    have hkRI:(k:Int)<(nR:Int):=by omega
    have f1w:IntKind.i64.wrap ((nR:Int)-1)=(k:Int):=by rw[ξi _ (by omega)];omega
    obtain⟨bo,oo,rfl,hbo,hco⟩:=hcl (by omega)
    have k0:=hco k hkR
    rw[HLT.out] at k0
    have f2w:IntKind.i64.wrap ((m2:Int)-1)=(m2:Int)-1:=ξi _ (by omega)
    clear hnk hco
    clear hcs
    generalize r.fb[k]?.getD 0=x at *
    cases hix:inB x 0 ((m2:Int)-1)
    · rw[hix] at HST
      have HF:=ξh (HE.trans (HW.trans HST.out))
      have HIN:=ξh (fun w=>ξI x 0 ((m2:Int)-1) w)
      rw[hix] at HIN
      clear hix
      go_wp2
      have j1:=rg p1
      have j3:=rg p3
      have jc:=rg c0
      clear p0 p1 p2 p3 c0 k0
      refine ξv ?_
      repeat (go_big_quiet_step (first | (go_at_call 77;exact ξK (HIN.out _))))
      refine wpQuiet_nil ?_
      rintro _ ⟨⟨dq,osq⟩,rfl⟩
      have bq:=ξc wr dq osq
      generalize grow (redrawn wr dq) osq=w4 at *
      go_wp2
      go_ret2
      exact HX.out _ _ _ _ ((HBX.trans (HB.mono HBX.size)).trans (bq.mono (ξs HBX.size HB.size))) HF.out
    rw[hix] at HST
    obtain⟨hx0,hx9⟩:=ξO hix
    obtain⟨j,rfl⟩:∃j:Nat,x=(j:Int):=⟨x.toNat,by omega⟩
    have hj:j<m2:=by omega
    have hjI:(j:Int)<(m2:Int):=by omega
    have HOE:=ξh (fun wx (hb:Below wr.heap.size wr wx)=>ξct (.slice a1 m1 c1) (.slice a2 m2 c2) n j t wx ((HR2.behind HBX.out).behind (below_mono2 hb HB.out)) ⟨_,_,_,rfl⟩ (by rw[HN2.out];exact hj))
    have HIN:=ξh (fun w=>ξI (j:Int) 0 ((m2:Int)-1) w)
    rw[hix] at HIN
    unfold fbA at HOE
    have HST2:=ξh (show wlk n out t (r.fb.drop k)=(if othE (n.fs[j]?.getD nilB) t<0∨othE (n.fs[j]?.getD nilB) t∈out then none else wlk n (out++[othE (n.fs[j]?.getD nilB) t]) (othE (n.fs[j]?.getD nilB) t) (r.fb.drop (k+1))) from HST.out)
    clear HST hx0 hx9 hix
    generalize n.fs[j]?.getD nilB=f at *
    generalize othE f t=o at *
    go_wp2
    have j1:=rg p1
    have j3:=rg p3
    have jc:=rg c0
    refine ξv ?_
    repeat (go_big_quiet_step (first | (go_at_call 77;exact ξK (HIN.out _))))
    refine wpQuiet_nil ?_
    rintro _ ⟨⟨dq,osq⟩,rfl⟩
    have bq:=ξc wr dq osq
    have p0:=(bq.cell (ξd _ _ p0)).trans p0
    have p1:=j1 dq osq
    have p3:=j3 dq osq
    have c0:=jc dq osq
    have k0:=(bq.cell (ξd _ _ k0)).trans k0
    clear j1 j3 jc
    have HBQ:=ξh bq
    generalize grow (redrawn wr dq) osq=wq at *
    go_wp2
    have j0:=rg p0
    have j1:=rg p1
    have j3:=rg p3
    have jc:=rg c0
    have jk:=rg k0
    have HOQ:=ξh (fun d os=>HOE.out (grow (redrawn wq d) os) (HBQ.trans ((ξc wq d os).mono HBQ.size)))
    clear p0 p1 p3 c0 k0 bq
    refine ξv ?_
    repeat (go_big_quiet_step (first | (go_at_call 232;exact Calls.regrown_of (HOQ.out _ _))))
    refine wpQuiet_nil ?_
    rintro _ ⟨⟨dq2,osq2⟩,rfl⟩
    have b4:=HBQ.trans ((ξc wq dq2 osq2).mono HBQ.size)
    generalize grow (redrawn wq dq2) osq2=w4 at *
    clear j0 j1 j3 jc jk
    have HB4:=ξh (HB.trans (b4.mono HB.size))
    have HOW4:=ξh (HOW.belowAll b4)
    have HC4:=ξh (ξbh _ out o w4 HOW4.rd)
    clear b4 HOE
    by_cases ho:o<0
    · have HF:=ξh (HE.trans (HW.trans (HST2.trans (if_pos (.inl ho)))))
      have hd:decide (o<0)=true:=ξt ho
      clear ho
      go_wp2
      go_ret2
      exact HX.out _ _ _ _ (HBX.trans (HB4.mono HBX.size)) HF.out
    have hd:decide (o<0)=false:=ξf ho
    cases hcn:out.contains o
    case true=>
     have HF:=ξh (HE.trans (HW.trans (HST2.trans (if_pos (.inr (List.contains_iff_mem.1 hcn))))))
     rw[hcn] at HC4
     clear ho
     go_wp2_with (go_at_call 59;refine(HC4.out).mono ?_;rintro e w' ⟨rfl,rfl⟩)
     go_ret2
     exact HX.out _ _ _ _ (HBX.trans (HB4.mono HBX.size)) HF.out
    have HF:=ξh (HW.trans (HST2.trans (if_neg (fun h=>h.elim ho (fun h=>by rw[List.contains_iff_mem.2 h] at hcn;cases hcn)))))
    rw[hcn] at HC4
    clear ho hcn
    have HLO:=ξh (show out.length≤4000000 by have:=HLN.out;omega)
    go_wp2_with (first
     | (go_at_call 59;refine(HC4.out).mono ?_;rintro e w' ⟨rfl,rfl⟩)
     | (at_builtin;go_loud (refine ξa6 rfl (.tmp 67) (.tmp 69) 58 rfl Tryz.underlying58 Tryz.infoI w2.heap.size (.slice (some ⟨bo,oo,none⟩) nR cR) out rfl HOW4.out rfl HLO.out HB4.size ?_);intro v5 w5 o5 g5 l5;have HO5:=ξh o5;have HB5:=ξh (HB4.grown g5 HB4.size (fun q hq=>(HOW4.lt q hq).1));clear o5 g5 l5))
    go_roundw
    case rel=>exact⟨k+1,out++[o],o,hlt,by go_num,by show(out++[o])[k+1]?.getD 0=o;rw[List.getElem?_append_right (Nat.le_of_eq HLN.out),HLN.out];simp,HO5.out,by show(out++[o]).length=k+1+1;rw[ξk,HLN.out];rfl,HF.out,HB5.out⟩
    case measure=>simp[intOf];omega
  · obtain rfl:m3=k:=by omega
    have HF:=ξh (show rouN n r=some out by rw[HE.out,HW.out,List.drop_of_length_le (Nat.le_of_eq HN3.out)];rfl)
    have p3:=(HB.cell (p:=⟨w.heap.size+1,1,none⟩) bmt).trans q3
    go_wp2
    go_ret2
    exact HY.out _ _ _ _ _ (HBX.trans (HB.mono HBX.size)) (HOW.mono HBX.size) HF.out
end Go.Proofs.YtofcicomhnkocaaGreat
