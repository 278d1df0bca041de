import Derived.Test.YtofcicomhnkocaaGreatBx34
set_option linter.unusedVariables false
namespace Go.Proofs.YtofcicomhnkocaaGreat
set_option maxHeartbeats 12800000
open Go.RowKit
theorem take_succ' (zs:List Int) (k:Nat) (hk:k<zs.length):zs.take (k+1)=zs.take k++[zs[k]?.getD 0]:=by
 rw[List.take_add_one,ξg hk];rfl
theorem take_eq_step {xs ys:List Int} {k:Nat} (hx:k<xs.length) (hy:k<ys.length) (h:xs.take k=ys.take k) (e:(xs[k]?.getD 0)=(ys[k]?.getD 0)):xs.take (k+1)=ys.take (k+1):=by
 rw[take_succ' _ _ hx,take_succ' _ _ hy,h]
 congr 1
 simpa[List.getD] using e
def eqL (xs ys:List Int):Bool:=decide (xs=ys)
theorem eqL_refl (xs:List Int):eqL xs xs=true:=by simp[eqL]
theorem eqL_of {xs ys:List Int} (h:xs=ys):eqL xs ys=true:=by simp[eqL,h]
set_option maxRecDepth 100000
theorem ξbQ (va vb:Value) (xs ys:List Int) (w:World) (ha:Rd w va xs) (hb:Rd w vb ys):
 Calls Tryz.prog 42 #[va,vb] w fun e w'=>e= .returned (.bool (eqL xs ys))∧Dr w w':=by
 obtain⟨a,capa,n,HX,rfl,_,hla,ha⟩:=ha.opn
 obtain⟨b,capb,m,HY,rfl,_,hlb,hb⟩:=hb.opn
 by_cases hn:n=m
 · subst hn
   have hne:((n:Int) != (n:Int))=false:=by simp
   have HR:=ξh (show xs=ys→eqL xs ys=true from eqL_of)
   have HN:=ξh (show xs≠ys→eqL xs ys=false from fun h=>by simp[eqL,h])
   generalize eqL xs ys=r at *
   go_enter Tryz.func42,Tryz.ntmps42
   go_wp2
   go_loopw [5] (fun i wr=>∃k:Nat,k≤n∧i= .int .i64 k∧Hid (xs.take k=ys.take k)∧Dr w wr) (fun i _=>n-(intOf i).toNat)
   case atStart=>exact⟨0,by omega,rfl,by simp[Hid],Dr.refl _⟩
   case round=>
    obtain⟨k,hk,rfl,HT,m,rfl⟩:=hrel
    by_cases hlt:k<n
    · obtain⟨b1,o1,rfl,hs1,hc1⟩:=ha (by omega)
      obtain⟨b2,o2,rfl,hs2,hc2⟩:=hb (by omega)
      have c1:=hc1 k hlt
      have c2:=hc2 k hlt
      clear hc1 hc2
      by_cases he:(xs[k]?.getD 0)=(ys[k]?.getD 0)
      · have hne2:((xs[k]?.getD 0) != (ys[k]?.getD 0))=false:=by simpa using he
        have HE:=ξh he
        clear he
        go_wp2
        go_quiet (fail)
        go_wp2
        go_roundw
        case rel=>exact⟨k+1,by omega,by go_num,take_eq_step (by rw[HX.out];exact hlt) (by rw[HY.out];exact hlt) HT.out HE.out,⟨_,rfl⟩⟩
        case measure=>simp[intOf];omega
      · have hne2:((xs[k]?.getD 0) != (ys[k]?.getD 0))=true:=by simpa using he
        have HE:=ξh he
        clear he
        go_wp2
        go_quiet (fail)
        go_wp2
        go_ret
        exact⟨by rw[HN.out (fun h=>HE.out (by rw[h]))];rfl,Dr.drewN ⟨_,rfl⟩ _⟩
    · obtain rfl:k=n:=by omega
      go_wp2
      go_ret
      have hh:=HT.out
      rw[←HX.out,List.take_length,HX.out,←HY.out,List.take_length] at hh
      exact⟨by rw[HR.out hh];rfl,⟨_,rfl⟩⟩
 · have hne:((n:Int) != (m:Int))=true:=by rw[bne_iff_ne];omega
   have he:eqL xs ys=false:=by simp only[eqL,decide_eq_false_iff_not];exact fun h=>hn (by rw[←HX.out,←HY.out,h])
   have HE:=ξh he
   clear he
   go_enter Tryz.func42,Tryz.ntmps42
   go_wp2
   go_ret
   exact⟨by rw[HE.out];rfl,Dr.refl _⟩
open Go.RowKit Go.Sort
def cntB (x:Nat):Nat→Nat
 | 0=>0
 | k+1=>cntB x k+if x.testBit k then 1 else 0
theorem ξby (x:Nat):∀k,cntB x k≤k
 | 0=>ξr _
 | k+1=>by have:=ξby x k;rw[cntB];split <;> omega
def popN (x:Nat):Nat:=cntB x 24
theorem popN_le (x:Nat):popN x≤24:=ξby x 24
theorem ξc8 {a:Nat} (y:Nat) (ha:a<256):∀j,cntB (a+256*y) (8+j)=cntB a 8+cntB y j
 | 0=>by
   have h:=fun i (hi:i<8)=>(tb8 y ha i).trans (if_pos hi)
   simp only[cntB,Nat.add_zero,h 0 (by omega),h 1 (by omega),h 2 (by omega),h 3 (by omega),h 4 (by omega),h 5 (by omega),h 6 (by omega),h 7 (by omega)]
 | j+1=>by
   have h:=tb8 y ha (8+j)
   rw[if_neg (by omega),show 8+j-8=j by omega] at h
   show cntB (a+256*y) (8+j)+(if(a+256*y).testBit (8+j) then 1 else 0)=cntB a 8+(cntB y j+(if y.testBit j then 1 else 0))
   rw[ξc8 y ha j,h,Nat.add_assoc]
theorem q_le:∀a:Fin 256,q1 a≤170∧q2 (q1 a)≤102∧q2 (q1 a)/16≤4∧q2 (q1 a)%16≤4∧q3 (q2 (q1 a))=cntB a 8:=by decide +kernel
theorem st3 {a b c:Nat} (ha:a≤102∧a/16≤4∧a%16≤4) (hb:b≤102∧b/16≤4∧b%16≤4) (hc:c≤102∧c/16≤4∧c%16≤4):(by3 a b c/16+by3 a b c) &&& 1085102592571150095=by3 (q3 a) (q3 b) (q3 c):=by
 have x1:=e3 ⟨a,by omega⟩ ⟨b%16,by omega⟩ ha.1
 have x2:=e3 ⟨b,by omega⟩ ⟨c%16,by omega⟩ hb.1
 simp only at x1 x2
 rw[show by3 a b c/16+by3 a b c=by3 (a/16+16*(b%16)+a) (b/16+16*(c%16)+b) (c/16+c) by unfold by3;omega,
  show(1085102592571150095:Nat)=15+256*(15+256*(15+256*64677154575)) by omega]
 rw[and3 _ (by omega) (by omega) (by omega) (by omega),x1,x2]
 rfl
theorem st4 {a b c:Nat} (ha:a≤8) (hb:b≤8) (hc:c≤8) {y y1 y2 y3:Nat} (hy:y=by3 a b c) (h1:y1=y+y/256) (h2:y2=y1+y1/65536) (h3:y3=y2+y2/4294967296):y3%128=a+b+c:=by
 unfold by3 at hy
 have k1:y/256=b+256*c:=by omega
 have k2:y1/65536=c:=by omega
 have k3:y2/4294967296=0:=by omega
 omega
theorem st5 {y y1 y2 y3:Nat} (hy:y<1000000) (h1:y1=y+y/256) (h2:y2=y1+y1/65536) (h3:y3=y2+y2/4294967296):y1<16777216∧y2<16777216∧y3<16777216:=by omega
theorem swar {x:Nat} (hx:x<16777216):∃x1 x2 x3:Nat,(x/2 &&& 6148914691236517205)+(x &&& 6148914691236517205)=x1∧(x1/4 &&& 3689348814741910323)+(x1 &&& 3689348814741910323)=x2∧(x2/16+x2) &&& 1085102592571150095=x3∧x1<16777216∧x2<16777216∧x3<1000000∧ ∀y1 y2 y3,y1=x3+x3/256→y2=y1+y1/65536→y3=y2+y2/4294967296→y3%128=popN x:=by
 obtain⟨a,b,c,ha,hb,hc,rfl⟩:∃a b c,a<256∧b<256∧c<256∧x=by3 a b c:=⟨x%256,x/256%256,x/65536,by omega,by omega,by omega,by unfold by3;omega⟩
 obtain⟨a1,a2,a3,a4,a5⟩:=q_le ⟨a,ha⟩
 obtain⟨b1,b2,b3,b4,b5⟩:=q_le ⟨b,hb⟩
 obtain⟨c1,c2,c3,c4,c5⟩:=q_le ⟨c,hc⟩
 simp only at a1 a2 a3 a4 a5 b1 b2 b3 b4 b5 c1 c2 c3 c4 c5
 have ka:=ξby a 8
 have kb:=ξby b 8
 have kc:=ξby c 8
 refine⟨_,_,_,st1 ha hb hc,st2 a1 b1 c1,st3 ⟨a2,a3,a4⟩ ⟨b2,b3,b4⟩ ⟨c2,c3,c4⟩,by unfold by3;omega,by unfold by3;omega,by rw[a5,b5,c5];unfold by3;omega,?_⟩
 intro y1 y2 y3 k1 k2 k3
 rw[st4 (by rw[a5];exact ka) (by rw[b5];exact kb) (by rw[c5];exact kc) rfl k1 k2 k3,a5,b5,c5]
 unfold popN by3
 rw[show(24:Nat)=8+16 from rfl,ξc8 _ ha,show(16:Nat)=8+8 from rfl,ξc8 _ hb]
 omega
theorem pln_nth (n:Net) (ps:List (List Lgt)) (t:Nat):(ps.map (Pln.mk n))[t]?.getD ⟨n,[]⟩=⟨n,ps[t]?.getD []⟩:=by
 rw[List.getElem?_map]
 cases ps[t]? <;> rfl
theorem pls_at {w':World} {base:Nat} {n:Net} {ps:List (List Lgt)} {s:Value} {X:Nat→Prop} (h:GrwX w' base 75 3 s 8 ((ps.map (Pln.mk n)).flatMap plnD) X) (hl:ps.length=8) (hs:NetSm n):
 ∃b off c,s= .slice (some ⟨b,off,none⟩) 8 c∧b<w'.heap.size∧Hid (∀t,t<8→ ∃a1 m1 c1 a2 m2 c2 a3 m3 c3,w'.cell? ⟨b,off+t * 3,none⟩=some (.slice a1 m1 c1)∧w'.cell? ⟨b,off+t * 3+1,none⟩=some (.slice a2 m2 c2)∧w'.cell? ⟨b,off+t * 3+2,none⟩=some (.slice a3 m3 c3)∧
  PlnR w' (.agg #[.slice a1 m1 c1,.slice a2 m2 c2,.slice a3 m3 c3]) ⟨n,ps[t]?.getD []⟩):=by
 have hr:Rdt w' (rws 3 plnD (ps.map (Pln.mk n))) s:=h.grw.ofr.rd
 obtain⟨a,nn,cap,rfl,HN,hc,-,ha⟩:=rws_opn (m:=3) (en:=plnD) (fun _=>rfl) (by omega) ⟨n,[]⟩ hr
 have hn:=HN.out
 rw[List.length_map,hl] at hn
 subst hn
 obtain⟨b,off,rfl,hb,ha⟩:=ha (by omega)
 refine⟨b,off,cap,rfl,hb,fun t ht=> ?_⟩
 have g:=fun r d hd=>ha t ht r d hd
 rw[pln_nth] at g
 obtain⟨u0,k0,l0⟩:=g 0 _ rfl
 obtain⟨u1,k1,l1⟩:=g 1 _ rfl
 obtain⟨u2,k2,l2⟩:=g 2 _ rfl
 obtain⟨a1,m1,c1,rfl⟩:=Rdt.slice' l0
 obtain⟨a2,m2,c2,rfl⟩:=Rdt.slice' l1
 obtain⟨a3,m3,c3,rfl,-⟩:=Rdt.opn l2
 exact⟨a1,m1,c1,a2,m2,c2,a3,m3,c3,k0,k1,k2,_,_,_,rfl,l0,l1,l2,hs⟩
theorem pls_ok {n:Net} {fs:List Fmt} {gs:List Gro} {ps:List (List Lgt)} {r:PRun} (h:ξR n fs gs=some (ps,r)):ps.length=8∧ξL n=true∧ ∀t,t<8→LsK n (ps[t]?.getD []):=by
 obtain⟨-,h2,h3,h4⟩:=ξau h
 refine⟨runP_len h4,h2,fun t ht=> ?_⟩
 obtain⟨rt,e1,hr,-⟩:=(ξaz h3 h4).2 t ht
 rw[e1]
 exact hr.lsk h3
def ξT (n:Net) (fs:List Fmt) (gs:List Gro) (t i:Nat):Int:=match ξR n fs gs with
 | none=>0
 | some (ps,_)=>((popN (ξU (ps[t]?.getD []) (i:Int)):Nat):Int)
theorem ξbk {a b:Nat} (ha:a<18446744073709551616) (hb:b<18446744073709551616):bits .and .u64 (a:Int) (b:Int)=((a &&& b:Nat):Int):=by
 have hab:a &&& b<2 ^ 64:=Nat.and_lt_two_pow (n:=64) _ hb
 have e:(BitVec.ofInt 64 (a:Int) &&& BitVec.ofInt 64 (b:Int)).toNat=a &&& b:=by
  rw[BitVec.toNat_and,BitVec.ofInt_natCast,BitVec.ofInt_natCast,BitVec.toNat_ofNat,BitVec.toNat_ofNat,Nat.mod_eq_of_lt (by omega),Nat.mod_eq_of_lt (by omega)]
 unfold bits
 show IntKind.u64.wrap (((BitVec.ofInt 64 (a:Int) &&& BitVec.ofInt 64 (b:Int)).toNat:Nat):Int)=_
 rw[e,IntWalk.u64_in _ (by omega)]
theorem bits_and7 {a:Nat} (ha:a<9223372036854775808):bits .and .i64 (a:Int) 127=((a%128:Nat):Int):=by
 have hab:a &&& 127=a%128:=Nat.and_two_pow_sub_one_eq_mod a 7
 have e:(BitVec.ofInt 64 (a:Int) &&& BitVec.ofInt 64 ((127:Nat):Int)).toNat=a &&& 127:=by
  rw[BitVec.toNat_and,BitVec.ofInt_natCast,BitVec.ofInt_natCast,BitVec.toNat_ofNat,BitVec.toNat_ofNat,Nat.mod_eq_of_lt (by omega),Nat.mod_eq_of_lt (by omega)]
 unfold bits
 show IntKind.i64.wrap (((BitVec.ofInt 64 (a:Int) &&& BitVec.ofInt 64 ((127:Nat):Int)).toNat:Nat):Int)=_
 rw[e,hab,ξi _ (by omega)]
theorem u64n {a:Nat} (ha:a<18446744073709551616):IntKind.u64.wrap (a:Int)=(a:Int):=IntWalk.u64_in _ (by omega)
theorem i64n {a:Nat} (ha:a<16777216):IntKind.i64.wrap (a:Int)=(a:Int):=ξi _ (by omega)
theorem w64n {a:Nat} (ha:a<16777216):wrap64 (a:Int)=(a:Int):=ξw _ (by omega)
theorem u64s {x y d:Nat} (hy:y=x+x/d) (hl:y<16777216):IntKind.u64.wrap ((x:Int)+(x:Int)/(d:Int))=(y:Int):=by
 subst hy
 have:=u64n (a:=x+x/d) (by omega)
 rw[Int.natCast_add,Int.natCast_ediv] at this
 exact this
theorem ones64_any (x:Nat) (hx:x<16777216) (w:World):
 Calls Tryz.prog 176 #[.int .u64 (x:Int)] w fun e w'=>e= .returned (.int .i64 (popN x:Nat))∧w=w':=by
 obtain⟨x1,x2,x3,h1,h2,h3,l1,l2,l3,h4⟩:=swar hx
 generalize popN x=P at *
 have l0:x/2 &&& 6148914691236517205<16777216:=by omega
 have m1:x &&& 6148914691236517205<16777216:=by omega
 have l2':x1/4 &&& 3689348814741910323<16777216:=by omega
 have m2:x1 &&& 3689348814741910323<16777216:=by omega
 have a1:bits .and .u64 ((x:Int)/2) 6148914691236517205=((x/2 &&& 6148914691236517205:Nat):Int):=ξbk (a:=x/2) (b:=6148914691236517205) (by omega) (by omega)
 have a2:bits .and .u64 (x:Int) 6148914691236517205=((x &&& 6148914691236517205:Nat):Int):=ξbk (b:=6148914691236517205) (by omega) (by omega)
 have a3:IntKind.u64.wrap (((x/2 &&& 6148914691236517205:Nat):Int)+((x &&& 6148914691236517205:Nat):Int))=(x1:Int):=by rw[←Int.natCast_add,h1];exact u64n (by omega)
 have b1:bits .and .u64 ((x1:Int)/4) 3689348814741910323=((x1/4 &&& 3689348814741910323:Nat):Int):=ξbk (a:=x1/4) (b:=3689348814741910323) (by omega) (by omega)
 have b2:bits .and .u64 (x1:Int) 3689348814741910323=((x1 &&& 3689348814741910323:Nat):Int):=ξbk (b:=3689348814741910323) (by omega) (by omega)
 have b3:IntKind.u64.wrap (((x1/4 &&& 3689348814741910323:Nat):Int)+((x1 &&& 3689348814741910323:Nat):Int))=(x2:Int):=by rw[←Int.natCast_add,h2];exact u64n (by omega)
 obtain⟨x4,h5⟩:∃x4:Nat,x4=x2/16+x2:=⟨_,rfl⟩
 rw[←h5] at h3
 have c1:IntKind.u64.wrap ((x2:Int)/16+(x2:Int))=(x4:Int):=by rw[h5];exact u64n (a:=x2/16+x2) (by omega)
 have c2:bits .and .u64 (x4:Int) 1085102592571150095=(x3:Int):=by rw[←h3];exact ξbk (b:=1085102592571150095) (by omega) (by omega)
 obtain⟨y1,hy1⟩:∃y1:Nat,y1=x3+x3/256:=⟨_,rfl⟩
 obtain⟨y2,hy2⟩:∃y2:Nat,y2=y1+y1/65536:=⟨_,rfl⟩
 obtain⟨y3,hy3⟩:∃y3:Nat,y3=y2+y2/4294967296:=⟨_,rfl⟩
 obtain⟨l4,l5,l6⟩:=st5 l3 hy1 hy2 hy3
 have h6:y3%128=P:=h4 y1 y2 y3 hy1 hy2 hy3
 clear h1 h2 h3 h4 h5 l0 m1 l2' m2 l1 l2 l3 hx
 have d1:IntKind.u64.wrap ((x3:Int)+(x3:Int)/256)=(y1:Int):=u64s hy1 l4
 have d2:IntKind.u64.wrap ((y1:Int)+(y1:Int)/65536)=(y2:Int):=u64s hy2 l5
 have d3:IntKind.u64.wrap ((y2:Int)+(y2:Int)/4294967296)=(y3:Int):=by simpa only[Int.cast_ofNat_Int] using u64s hy3 l6
 clear hy1 hy2 hy3 l4 l5
 have d4:=i64n l6
 have d5:=w64n l6
 have d6:bits .and .i64 (y3:Int) 127=((y3%128:Nat):Int):=bits_and7 (ξq l6 (by decide))
 rw[h6] at d6
 clear h6 l6
 go_enter Tryz.func176,Tryz.ntmps176
 go_wp2
 go_ret
 refine⟨?_,rfl⟩
 rfl
theorem ones_any (x:Nat) (hx:x<16777216) (w:World):
 Calls Tryz.prog 134 #[.int .u64 (x:Int)] w fun e w'=>e= .returned (.int .i64 (popN x:Nat))∧w=w':=by
 have HC:=ξh (fun w=>ones64_any x hx w)
 go_enter Tryz.func134,Tryz.ntmps134
 go_wp2_with fail
 refine(HC.out _).mono ?_
 rintro e w' ⟨rfl,rfl⟩
 go_wp2
 go_ret
 exact⟨rfl,rfl⟩
theorem ξbT (x:Nat) (hx:x<16777216) (w:World):
 Calls Tryz.prog 83 #[.int .i64 (x:Int)] w fun e w'=>e= .returned (.int .i64 (popN x:Nat))∧w=w':=by
 have HX:=ξh hx
 have HR:=ξh (show popN x=cntB x 24 from rfl)
 generalize popN x=P at *
 go_enter Tryz.func83,Tryz.ntmps83
 go_wp2
 go_loop [3,4] (fun s3 s4=>∃k:Nat,k≤24∧s3= .int .i64 (cntB x k:Nat)∧s4= .int .i64 k) (fun _ s4=>24-(intOf s4).toNat)
 case atStart=>exact⟨0,by omega,rfl,rfl⟩
 case round=>
  obtain⟨k,hk,rfl,rfl⟩:=hrel
  by_cases hlt:k<24
  · have hltI:(k:Int)<24:=by omega
    have hb:=bit_at k HX.out
    have HE:=ξh (show cntB x (k+1)=cntB x k+if x.testBit k then 1 else 0 from rfl)
    have hl:=ξby x k
    generalize cntB x k=c at *
    by_cases ht:x.testBit k=true
    · rw[if_pos ht] at hb HE
      have hw1:wrap64 ((c:Int)+1)=(c:Int)+1:=ξw _ (by omega)
      clear ht
      go_wp2
      go_round
      · exact⟨k+1,by omega,by rw[HE.out];rfl,by go_num⟩
      · simp[intOf];omega
    · rw[if_neg ht] at hb HE
      have hw1:wrap64 ((c:Int)+0)=(c:Int):=ξw _ (by omega)
      clear ht
      go_wp2
      go_round
      · exact⟨k+1,by omega,by rw[HE.out];rfl,by go_num⟩
      · simp[intOf];omega
  · obtain rfl:k=24:=by omega
    rw[←HR.out]
    go_wp2
    go_ret
    exact⟨rfl,rfl⟩
theorem orAll_lt {ls:List Lgt} {nf:Nat} (h:∀x∈ls,LgO nf x) {i:Nat} (hi:i<nf):(ξa5 ls nf)[i]?.getD 0<16777216:=by
 rw[ξaX hi (fun x hx f hf=>((h x hx).1 f hf).1)]
 exact ξaA h _
theorem own_one (w:World) (x:Int) (T:TypeId):Own (w.alloc (.cells #[.int .i64 x] T)) w.heap.size (.slice (some ⟨w.heap.size,0,none⟩) 1 1) [x]:=
 .inr ⟨w.heap.size,0,1,#[.int .i64 x],rfl,ξr _,⟨T,ξn w _⟩,by simp,by unfold maxLen;omega,by simp,by simp[ints]⟩
/-! ### Routes -/
/-! ### Blocks -/
/-! ### Lights -/
/-! ### Plans -/
def ltOk (p:Pln) (i:Nat):Bool:=ξah p.n (lgA p i)&&(!(decide (0<i)&&decide ((lgA p i).id≤(lgA p (i-1)).id)) && !((p.ls.take i).any fun y=>ξY y (lgA p i)))
def ξam (p:Pln):Bool:=ξL p.n&&(decide (p.ls.length≤12)&&(List.range p.ls.length).all (ltOk p))
theorem RunOk.pln {n:Net} {gs:List Gro} {t:Int} {i:Nat} {r:PRun} (hn:ξL n=true) (hg:GrsP n gs) (h:RunOk n gs t i r):ξam ⟨n,r.ls⟩=true:=by
 unfold ξam
 simp only
 rw[hn,ξt (h.len hg),Bool.true_and,Bool.true_and,List.all_eq_true]
 intro k hk
 have hk:=List.mem_range.1 hk
 have ek:lgA ⟨n,r.ls⟩ k=r.ls[k]:=by unfold lgA;simp only;rw[ξg hk];rfl
 unfold ltOk
 rw[ek]
 simp only
 rw[h.ok _ (ξj hk),Bool.true_and]
 have h1:(decide (0<k)&&decide (r.ls[k].id≤(lgA ⟨n,r.ls⟩ (k-1)).id))=false:=by
  by_cases k0:0<k
  · have ek1:lgA ⟨n,r.ls⟩ (k-1)=r.ls[k-1]:=by unfold lgA;simp only;rw[ξg (by omega)];rfl
    rw[ek1]
    have:=List.pairwise_iff_getElem.1 h.srt (k-1) k (by omega) hk (by omega)
    rw[ξf (by omega:¬r.ls[k].id≤r.ls[k-1].id),Bool.and_false]
  · rw[ξf k0,Bool.false_and]
 rw[h1]
 have h2:(r.ls.take k).any (fun y=>ξY y r.ls[k])=false:=by
  rw[List.any_eq_false]
  intro y hy
  obtain⟨j,hj,e⟩:=List.getElem_of_mem hy
  rw[List.length_take] at hj
  rw[List.getElem_take] at e
  have:=List.pairwise_iff_getElem.1 h.apt j k (by omega) hk (by omega)
  rw[←e,this];simp
 rw[h2];rfl
theorem runP_pln {n:Net} {fs:List Fmt} {gs:List Gro} (hn:ξL n=true) (hg:GrsP n gs) {k:Nat} {ps:List (List Lgt)} {r:PRun} (h:runP n fs gs k=some (ps,r)) {t:Nat} (ht:t<k) {ls:List Lgt} (hl:ps[t]?= some ls):ξam ⟨n,ls⟩=true:=by
 obtain⟨rt,e1,hr,-⟩:=(ξaz hg h).2 t ht
 rw[e1] at hl
 cases hl
 exact hr.pln hn hg
section
variable {w w' : World} {base b' B K : Nat} {c u1 u2 fv gv : Value} {n : Net} {gs : List Gro}
theorem GrF.below (h:GrF w base u1 u2 fv gv n gs) (hb:Below w.heap.size w w'):GrF w' base u1 u2 fv gv n gs:=h.kept fun g _ hg=>hb.block g hg
theorem GrF.cs (h:GrF w base u1 u2 fv gv n gs) (hB:B<base) (hc:CS w B c K w'):GrF w' base u1 u2 fv gv n gs:=h.kept fun g h1 h2=>hc.2.2.block g h2 fun e=>by have:=ξo e;omega
end
def DbI (w:World) (e:Ending) (w':World):Prop:=∃a1 m1 c1 a2 m2 c2 af mf cf ag mg cg n gs,∃x:Int,e= .returned (.tuple #[.agg #[.slice a1 m1 c1,.slice a2 m2 c2],.slice af mf cf,.slice ag mg cg,.int .i64 x])∧GrF w' w.heap.size (.slice a1 m1 c1) (.slice a2 m2 c2) (.slice af mf cf) (.slice ag mg cg) n gs∧Below w.heap.size w w'
theorem drawPA_any (a:Option Addr) (len cap:Nat) (w:World) (h:RdB w (.slice a len cap)):
 Calls Tryz.prog 44 #[.slice a len cap] w (DbI w):=by
 obtain⟨NP,hNP⟩:∃NP,NP=DbI w:=⟨_,rfl⟩
 rw[←hNP]
 obtain⟨d1,d2,d3,d4⟩:=ξbu h 35 #[.slice none 0 0,.slice none 0 0]
 have HC2:=ξh d1
 have HR:=ξh d2
 have HB2:=ξh d3
 have HZ2:=ξh d4
 clear d1 d2 d3 d4 h
 go_enter Tryz.func44,Tryz.ntmps44
 go_upto_region 2 with fail
 generalize (w.alloc (.cells #[.slice none 0 0,.slice none 0 0] 35)).alloc (.cells #[.slice a len cap,.int .i64 0,.int .u64 0] 117)=w2 at *
 obtain⟨br,hq⟩:∃br,br=w.heap.size:=⟨_,rfl⟩
 obtain⟨B,hB⟩:∃B,B=w.heap.size+1:=⟨_,rfl⟩
 have hbr:w.heap.size≤br:=by omega
 have hBb:w.heap.size≤B:=by omega
 have hrB:br<B:=by omega
 rw[←hq] at HR
 rw[←hB] at HC2
 have hB2:B+1≤w2.heap.size:=by have:=HZ2.out;omega
 rw[←hB,←hq]
 clear hq hB HZ2
 go_wp2_with fail
 refine(grown_any B _ 0 w2 HC2.out (by omega)).mono ?_
 rintro e w3 ⟨a1,m1,c1,a2,m2,c2,af,mf,cf,ag,mg,cg,n,gs,rfl,hg,hc3⟩
 have HR:=ξh (hc3.blk HR.out (by omega))
 have HBW:=ξh (hc3.belowAll HB2.out hBb)
 have CC:=ξh (HC2.here.call hc3)
 have HG:=ξh (hg.lower hB2)
 clear hg hc3 HC2 HB2
 have hBw3:B<w3.heap.size:=CC.st.lt.1
 go_upto_region 3 with fail
 have ha:=(ξb w3.heap.size w3).alloc (ξr _) (.cells #[.slice a1 m1 c1,.slice a2 m2 c2] 35)
 have HX:=ξh (ξn w3 (.cells #[.slice a1 m1 c1,.slice a2 m2 c2] 35))
 have HR:=ξh (ξA HR.out ha)
 have HG:=ξh (HG.below ha)
 have HBW:=ξh (HBW.trans (ha.mono HBW.size))
 have CC:=ξh (CC.below ha)
 obtain⟨bx,hq⟩:∃bx,bx=w3.heap.size:=⟨_,rfl⟩
 have hxB:bx≠B:=by have:=CC.1.1;have:=CC.size;have h2:=(ξa HX.out).1;have h3:B<w3.heap.size:=ξq hBw3 (ξr _);omega
 rw[←hq] at HX ⊢
 have hrx:br≠bx:=by have:=hrB;omega
 clear hq ha
 generalize w3.alloc (.cells #[.slice a1 m1 c1,.slice a2 m2 c2] 35)=w4 at *
 have HSS:=ξh (fun(w':World) (hx:w'.heap[bx]?= some (.cells #[.slice a1 m1 c1,.slice a2 m2 c2] 35 (0,0)))=>show w'.cell? ⟨bx,0,none⟩=some (.slice a1 m1 c1)∧w'.cell? ⟨bx,1,none⟩=some (.slice a2 m2 c2) from⟨blkc hx rfl,blkc hx rfl⟩)
 have hrBn:br≠B:=by omega
 refine ξH [0,1,2,3,4,5,6,7,8,9,10,11,12] (S:=fun w'=>w'.cell? ⟨bx,0,none⟩=some (.slice a1 m1 c1)∧w'.cell? ⟨bx,1,none⟩=some (.slice a2 m2 c2)) (by kernel_rfl) (HSS.out _ (show w4.drew.heap[bx]?= _ from HX.out)) (fun hH=> ?_)
 have CC:=ξh CC.drew
 have HX:=ξh (show w4.drew.heap[bx]?= _ from HX.out)
 have HR:=ξh (show w4.drew.heap[br]?= _ from HR.out)
 have HG:=ξh (HG.below (ξb _ _).drew)
 have HBW:=ξh HBW.drew
 obtain⟨wc,hwc⟩:∃wc,wc=w4.drew:=⟨_,rfl⟩
 rw[←hwc] at CC HX HR HG HBW hH ⊢
 clear hwc
 refine hlF 0 rfl hH ?_
 try simp only[Act.put,hlA,hlB,hlC]
 refine hlF 1 rfl hH ?_
 try simp only[Act.put,hlA,hlB,hlC]
 refine hlF 2 rfl hH ?_
 try simp only[Act.put,hlA,hlB,hlC]
 refine hlF 3 rfl hH ?_
 try simp only[Act.put,hlA,hlB,hlC]
 refine hlF 5 rfl hH ?_
 try simp only[Act.put,hlA,hlB,hlC]
 refine ξB (rs:=[4]) (by kernel_rfl) (by simp) ?_
 refine AllReadyL.cons rfl (fun KK hKK=> ?_) AllReadyL.nil
 go_simp
 go_at_call 72
 refine(ξX B _ _ 8 _ CC.st (by omega) (by omega) (by omega)).mono ?_
 rintro e wn ⟨xp,p0,p1,rfl,hcA,-⟩
 have HX:=ξh (hcA.blk HX.out hxB)
 have HR:=ξh (hcA.blk HR.out hrBn)
 have HG:=ξh (HG.cs (by omega) hcA)
 have HBW:=ξh (hcA.belowAll HBW.out hBb)
 have CC:=ξh (CC.call hcA)
 clear hcA
 obtain⟨wc,hwc⟩:∃wc,wc=wn:=⟨_,rfl⟩
 subst hwc
 refine hKK.out _ _ (HSS.out _ HX.out) (fun hH=> ?_)
 clear hKK KK
 try simp only[Act.put,hlA,hlB,hlC]
 have R4:True:=trivial
 refine ξB (rs:=[6]) (by kernel_rfl) (by simp) ?_
 refine AllReadyL.cons rfl (fun KK hKK=> ?_) AllReadyL.nil
 go_simp
 go_at_call 72
 refine(ξX B _ _ 20 _ CC.st (by omega) (by omega) (by omega)).mono ?_
 rintro e wn ⟨xq,q0,q1,rfl,hcA,-⟩
 have HX:=ξh (hcA.blk HX.out hxB)
 have HR:=ξh (hcA.blk HR.out hrBn)
 have HG:=ξh (HG.cs (by omega) hcA)
 have HBW:=ξh (hcA.belowAll HBW.out hBb)
 have CC:=ξh (CC.call hcA)
 clear hcA
 obtain⟨wc,hwc⟩:∃wc,wc=wn:=⟨_,rfl⟩
 subst hwc
 refine hKK.out _ _ (HSS.out _ HX.out) (fun hH=> ?_)
 clear hKK KK
 try simp only[Act.put,hlA,hlB,hlC]
 have R6:True:=trivial
 refine hlF 7 rfl hH ?_
 try simp only[Act.put,hlA,hlB,hlC]
 refine hlF 8 rfl hH ?_
 try simp only[Act.put,hlA,hlB,hlC]
 refine ξB (rs:=[9]) (by kernel_rfl) (by simp) ?_
 refine AllReadyL.cons rfl (fun KK hKK=> ?_) AllReadyL.nil
 have r0:=blkc HR.out (j:=0) (u:= .slice none 0 0) rfl
 have r1:=blkc HR.out (j:=1) (u:= .slice none 0 0) rfl
 have g0:wc.frozen? ⟨br,0,none⟩=false:=ξz _ _ _ _ _ HR.out
 have g1:wc.frozen? ⟨br,1,none⟩=false:=ξz _ _ _ _ _ HR.out
 go_simp
 have HX:=ξh ((ξm _ ⟨br,1,none⟩ bx (.slice a2 m2 c2) (fun e=>hrx e.symm)).trans ((ξm wc ⟨br,0,none⟩ bx (.slice a1 m1 c1) (fun e=>hrx e.symm)).trans HX.out))
 refine hKK.out _ _ (HSS.out _ HX.out) (fun hH=> ?_)
 clear hKK KK
 try simp only[Act.put,hlA,hlB,hlC]
 have R9:True:=trivial
 refine ξB (rs:=[10]) (by kernel_rfl) (by simp) ?_
 refine AllReadyL.cons rfl (fun KK hKK=> ?_) AllReadyL.nil
 go_simp
 refine hKK.out _ _ (HSS.out _ HX.out) (fun hH=> ?_)
 clear hKK KK
 try simp only[Act.put,hlA,hlB,hlC]
 have R10:True:=trivial
 refine ξB (rs:=[11]) (by kernel_rfl) (by simp) ?_
 refine AllReadyL.cons rfl (fun KK hKK=> ?_) AllReadyL.nil
 go_simp
 refine hKK.out _ _ (HSS.out _ HX.out) (fun hH=> ?_)
 clear hKK KK
 try simp only[Act.put,hlA,hlB,hlC]
 have R11:True:=trivial
 refine ξG 12 rfl (by kernel_rfl) (by kernel_rfl) (fun KK hKK=> ?_)
 go_simp
 refine hKK.out _ _ ?_
 clear hKK KK
 try simp only[Act.put,hlA,hlB,hlC]
 refine ξS (by kernel_rfl) ?_ _
 all_goals
  obtain⟨X,hX⟩:∃X,X=IntKind.i64.wrap (xp+IntKind.i64.wrap (xq.tdiv 19)):=⟨_,rfl⟩
  rw[←hX]
  clear hX r0 r1 g0 g1
  have s0:=ξe wc br 0 _ _ (.slice a1 m1 c1) HR.out
  have s1:=ξe _ br 1 _ _ (.slice a2 m2 c2) s0
  have BW9:=ξh ((HBW.setCell (p:=⟨br,0,none⟩) hbr (.slice a1 m1 c1)).setCell (p:=⟨br,1,none⟩) hbr (.slice a2 m2 c2))
  have G9:=ξh (((HG.set (b:=br) (j:=0) (x:= .slice a1 m1 c1) (by omega)).set (b:=br) (j:=1) (x:= .slice a2 m2 c2) (by omega)).lower (show w.heap.size≤B+1 by omega))
  have t0:=blkc s1 (j:=0) (u:= .slice a1 m1 c1) rfl
  have t1:=blkc s1 (j:=1) (u:= .slice a2 m2 c2) rfl
  clear s0 s1
  go_wp2_with fail
  subst hNP
  exact bodyPost_ret (v:= .tuple #[.agg #[.slice a1 m1 c1,.slice a2 m2 c2],.slice af mf cf,.slice ag mg cg,.int .i64 X]) (by simp[results,Tryz.results44,go_sem,t0,t1]) rfl ⟨_,_,_,_,_,_,_,_,_,_,_,_,n,gs,X,rfl,G9.out,BW9.out⟩
end Go.Proofs.YtofcicomhnkocaaGreat
