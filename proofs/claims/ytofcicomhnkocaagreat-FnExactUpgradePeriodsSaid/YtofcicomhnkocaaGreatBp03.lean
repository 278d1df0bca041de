/- Joined: XNetP XNetW XNetS XFlu XMid XNumP. -/
import Derived.Test.YtofcicomhnkocaaGreatBp02
import Derived.Lib.QuietBelow
import Derived.OwnWalk
import Derived.Deep.MidRow
import Derived.WalkKit
import Derived.Lib.Hide
import Derived.Test.YtofcicomhnkocaaGreatBp01
import Derived.Lib.ItoaNum
set_option linter.unusedVariables false
namespace Go.Proofs.YtofcicomhnkocaaGreat
set_option maxHeartbeats 6400000
open Go.RowKit Go.Sort
/-! ### Boxes, regions -/
theorem box_facts (w:World) (us:Array Value) (T:TypeId):Below w.heap.size w (w.alloc (.cells us T))∧(∀j u,us[j]?= some u→(w.alloc (.cells us T)).cell? ⟨w.heap.size,j,none⟩=some u)∧w.heap.size<(w.alloc (.cells us T)).heap.size∧(∀j,(w.alloc (.cells us T)).frozen? ⟨w.heap.size,j,none⟩=false):=
 ⟨(Below.refl w.heap.size w).alloc (Nat.le_refl _) _,fun j u h=>blkc (heap_alloc_new w (.cells us T)) h,by simp,fun j=>frozen_of_row _ _ _ _ _ (heap_alloc_new w (.cells us T))⟩
theorem bcell {W w1:World} (hb:Below W.heap.size W w1):(∀b o,b<W.heap.size→w1.cell? ⟨b,o,none⟩=W.cell? ⟨b,o,none⟩)∧(∀b o,b<W.heap.size→w1.frozen? ⟨b,o,none⟩=W.frozen? ⟨b,o,none⟩):=
 ⟨fun b o h=>hb.cell (p:=⟨b,o,none⟩) h,fun b o h=>hb.frozen (p:=⟨b,o,none⟩) h⟩
theorem rg {w:World} {a:Addr} {v:Value} (h:w.cell? a=some v):∀d os,(grow (redrawn w d) os).cell? a=some v:=fun d os=>cell_regrown h d os
theorem rg_same {P:Program} {f:FuncId} {args:Array Value} {w:World} {d:Nat} {os:Array Obj} {v:Value}
 (h:Calls P f args (grow (redrawn w d) os) fun e w'=>e= .returned v∧grow (redrawn w d) os=w'):Calls P f args (grow (redrawn w d) os) fun e w''=>e= .returned v∧ ∃p:Regrown,w''=grow (redrawn w p.d) p.os:=
 h.mono fun _ _ ⟨he,hb⟩=>⟨he,⟨⟨d,os⟩,hb.symm⟩⟩
theorem Rdt.rg {w:World} {dt:Dt} {v:Value} (h:Rdt w dt v) (d:Nat) (os:Array Obj):Rdt (grow (redrawn w d) os) dt v:=h.behind (below_regrown w d os)
/-! ### Ranges -/
theorem rng_no {m i:Nat} {P:Nat→Bool} (hi:i<m) (h:P i=false):(List.range m).all P=false:=by
 rw[List.all_eq_false];exact⟨i,List.mem_range.2 hi,by simp[h]⟩
theorem rng_yes {m:Nat} {P:Nat→Bool} (h:∀i,i<m→P i=true):(List.range m).all P=true:=by
 rw[List.all_eq_true];exact fun i hi=>h i (List.mem_range.1 hi)
theorem upto_succ {k:Nat} {P:Nat→Bool} (h:∀i,i<k→P i=true) (hk:P k=true):∀i,i<k+1→P i=true:=fun i hi=>by
 by_cases e:i=k
 · rw[e];exact hk
 · exact h i (by omega)
/-! ### Networks -/
structure Net where
 ns:List ByteArray
 fs:List Fib
abbrev nmA (n:Net) (i:Nat):ByteArray:=n.ns[i]?.getD nilS
abbrev fbA (n:Net) (i:Nat):Fib:=n.fs[i]?.getD nilB
def nmOk (n:Net) (i:Nat):Bool:=nameOk (nmA n i)&&decide (plc n.ns (nmA n i)=(i:Int))
def fbOk (n:Net) (i:Nat):Bool:=fibOk (fbA n i) n.ns.length && !(decide (0<i)&&fibGt (fbA n (i-1)) (fbA n i))
def netOk (n:Net):Bool:=decide (2≤n.ns.length∧n.ns.length≤8∧n.fs.length≤14)&&((List.range n.ns.length).all (nmOk n)&&(List.range n.fs.length).all (fbOk n))
theorem netOk_nm {n:Net} {i:Nat} (hi:i<n.ns.length) (h:nmOk n i=false):netOk n=false:=by
 unfold netOk;rw[rng_no hi h];simp
theorem netOk_fb {n:Net} {i:Nat} (hi:i<n.fs.length) (h:fbOk n i=false):netOk n=false:=by
 unfold netOk;rw[rng_no hi h];simp
theorem netOk_sz {n:Net} (h:¬(2≤n.ns.length∧n.ns.length≤8∧n.fs.length≤14)):netOk n=false:=by
 unfold netOk;rw[decide_eq_false h];simp
theorem netOk_all {n:Net} (h1:∀i,i<n.ns.length→nmOk n i=true) (h2:∀i,i<n.fs.length→fbOk n i=true):netOk n=decide (2≤n.ns.length∧n.ns.length≤8∧n.fs.length≤14):=by
 unfold netOk;rw[rng_yes h1,rng_yes h2];simp
theorem netOk_yes {n:Net} (h:netOk n=true):2≤n.ns.length∧n.ns.length≤8∧n.fs.length≤14∧(∀i,i<n.ns.length→nmOk n i=true)∧(∀i,i<n.fs.length→fbOk n i=true):=by
 unfold netOk at h
 simp only[Bool.and_eq_true,decide_eq_true_eq,List.all_eq_true] at h
 obtain⟨⟨a,b,c⟩,d,e⟩:=h
 exact⟨a,b,c,fun i hi=>d i (List.mem_range.2 hi),fun i hi=>e i (List.mem_range.2 hi)⟩
theorem fibOk_parts {f:Fib} {m:Nat} (h:fibOk f m=true):0≤f.a∧f.a<f.b∧f.b<m∧1≤f.l∧f.l≤5000∧0≤f.r∧f.r≤9:=by
 unfold fibOk at h
 simp only[Bool.and_eq_true] at h
 obtain⟨⟨⟨h1,h2⟩,h3⟩,h4⟩:=h
 have:=inB_true h1;have:=inB_true h2;have:=inB_true h3;have:=inB_true h4
 omega
theorem fibOk_small {f:Fib} {m:Nat} (h:fibOk f m=true) (hm:m≤1000):smallF f:=by
 have:=fibOk_parts h
 unfold smallF
 omega
theorem plc_pre {ns:List ByteArray} {k:Nat} (hk:k<ns.length):decide (0≤plc (ns.take k) (ns[k]?.getD nilS))= !decide (plc ns (ns[k]?.getD nilS)=(k:Int)):=by
 generalize hx:ns[k]?.getD nilS=x
 cases h:(ns.take k).any (fun s=>s.toList==x.toList)
 · rw[plc_none h,plc_some hk h (by rw[hx];simp)];simp
 · have h1:0≤plc (ns.take k) x∧plc (ns.take k) x<k∧plc ns x=plc (ns.take k) x:=by
    unfold plc
    cases hf:(ns.take k).findIdx? (fun s=>s.toList==x.toList) with
    | none=>
      rw[List.findIdx?_eq_none_iff] at hf
      obtain⟨s,hs,e⟩:=List.any_eq_true.1 h
      rw[hf s hs] at e;cases e
    | some i=>
      obtain⟨hi,e1,e2⟩:=List.findIdx?_eq_some_iff_getElem.1 hf
      have hi':i<k:=by simp at hi;omega
      have hfull:ns.findIdx? (fun s=>s.toList==x.toList)=some i:=List.findIdx?_eq_some_iff_getElem.2 ⟨by omega,by simpa using e1,fun j hj=>by have:=e2 j hj;simpa using this⟩
      rw[hfull]
      simp;omega
   rw[decide_eq_true h1.1,h1.2.2,decide_eq_false (by omega)];rfl
def NetR (w:World) (v:Value) (n:Net):Prop:=∃u1 u2,v= .agg #[u1,u2]∧Rdt w (flt 1 strE n.ns) u1∧Rdt w (flt 4 fibE n.fs) u2∧ ∀i:Nat,(nmA n i).size≤1048576
theorem NetR.behind {w w':World} {v:Value} {n:Net} (h:NetR w v n) (hb:Below w.heap.size w w'):NetR w' v n:=by
 obtain⟨u1,u2,e,h1,h2,h3⟩:=h;exact⟨u1,u2,e,h1.behind hb,h2.behind hb,h3⟩
theorem flt_take {α:Type} {enc:α→List Value} {m:Nat} {w:World} {a:Option Addr} {n cap k:Nat} {zs:List α} (hm:∀z,(enc z).length=m) (hm0:0<m) (h:Rdt w (flt m enc zs) (.slice a n cap)) (hk:k≤n):Rdt w (flt m enc (zs.take k)) (.slice a k cap):=by
 unfold flt at h ⊢
 have hlen:=fltC_len hm zs
 have hlk:=fltC_len hm (zs.take k)
 have hat:∀j,j<k*m→(fltC enc (zs.take k))[j]?= (fltC enc zs)[j]?:=fun j hj=>by
  obtain⟨i,r,hr,rfl⟩:∃i r,r<m∧j=i*m+r:=⟨j/m,j%m,Nat.mod_lt _ hm0,by rw[Nat.mul_comm];exact(Nat.div_add_mod j m).symm⟩
  have hi:i<k:=by
   by_cases e:i<k
   · exact e
   · have:=Nat.mul_le_mul_right m (Nat.le_of_not_lt e);omega
  rw[fltC_at hm _ i r hr,fltC_at hm _ i r hr,List.getElem?_take,if_pos hi]
 generalize fltC enc zs=ds at *
 generalize fltC enc (zs.take k)=ds' at *
 cases h with
 | nil size=>
   obtain rfl:k=0:=by omega
   have:ds'=[]:=List.eq_nil_of_length_eq_zero (by simpa using hlk)
   rw[this];exact .nil m
 | @mk size n b off cap ds us hl hu hn hc hb hcell hd=>
   have hzl:zs.length=n:=Nat.eq_of_mul_eq_mul_right hm0 (by omega)
   rw[List.length_take,hzl,Nat.min_eq_left hk] at hlk
   have hkm:=Nat.mul_le_mul_right m hk
   refine .mk (us:=us.take (k*m)) hlk (by rw[List.length_take,hlk];omega) (by omega) hc hb (fun j u hj=> ?_) (fun j d u e1 e2=> ?_)
   · rw[List.getElem?_take] at hj
     split at hj
     · exact hcell j u hj
     · cases hj
   · rw[List.getElem?_take] at e2
     split at e2
     · rename_i hjk
       rw[hat j hjk] at e1
       exact hd j d u e1 e2
     · cases e2
theorem Rdt.slice' {α:Type} {enc:α→List Value} {m:Nat} {zs:List α} {w:World} {v:Value} (h:Rdt w (flt m enc zs) v):∃a n cap,v= .slice a n cap:=by
 obtain⟨a,n,cap,e,_⟩:=Rdt.opn (show Rdt w (.rows m (fltC enc zs)) v from h);exact⟨a,n,cap,e⟩
set_option maxRecDepth 100000
theorem fib_cases (f:Fib) (m:Nat):
 (decide (f.a<0)=true∧fibOk f m=false)∨
 (decide (f.a<0)=false∧decide (f.b≤f.a)=true∧fibOk f m=false)∨
 (decide (f.a<0)=false∧decide (f.b≤f.a)=false∧decide ((m:Int)≤f.b)=true∧fibOk f m=false)∨
 (decide (f.a<0)=false∧decide (f.b≤f.a)=false∧decide ((m:Int)≤f.b)=false∧inB f.l 1 5000=false∧fibOk f m=false)∨
 (decide (f.a<0)=false∧decide (f.b≤f.a)=false∧decide ((m:Int)≤f.b)=false∧inB f.l 1 5000=true∧inB f.r 0 9=false∧fibOk f m=false)∨
 (decide (f.a<0)=false∧decide (f.b≤f.a)=false∧decide ((m:Int)≤f.b)=false∧inB f.l 1 5000=true∧inB f.r 0 9=true∧fibOk f m=true):=by
 have e:fibOk f m=(inB f.a 0 ((m:Int)-1)&&inB f.b (f.a+1) ((m:Int)-1)&&inB f.l 1 5000&&inB f.r 0 9):=rfl
 by_cases h1:f.a<0
 · left;refine⟨decide_eq_true h1,?_⟩
   rw[e,show inB f.a 0 ((m:Int)-1)=false by unfold inB;simp;omega];simp
 right
 by_cases h2:f.b≤f.a
 · left;refine⟨decide_eq_false h1,decide_eq_true h2,?_⟩
   rw[e,show inB f.b (f.a+1) ((m:Int)-1)=false by unfold inB;simp;omega];simp
 right
 by_cases h3:(m:Int)≤f.b
 · left;refine⟨decide_eq_false h1,decide_eq_false h2,decide_eq_true h3,?_⟩
   rw[e,show inB f.b (f.a+1) ((m:Int)-1)=false by unfold inB;simp;omega];simp
 right
 have e2:fibOk f m=(inB f.l 1 5000&&inB f.r 0 9):=by
  rw[e,show inB f.a 0 ((m:Int)-1)=true by unfold inB;simp;omega,show inB f.b (f.a+1) ((m:Int)-1)=true by unfold inB;simp;omega];simp
 rw[e2]
 cases inB f.l 1 5000
 · left;exact⟨decide_eq_false h1,decide_eq_false h2,decide_eq_false h3,rfl,rfl⟩
 right
 cases inB f.r 0 9
 · left;exact⟨decide_eq_false h1,decide_eq_false h2,decide_eq_false h3,rfl,rfl,rfl⟩
 · right;exact⟨decide_eq_false h1,decide_eq_false h2,decide_eq_false h3,rfl,rfl,rfl⟩
theorem IsValidNetwork_any (v:Value) (n:Net) (w:World) (h:NetR w v n):
 Calls Tryz.prog 78 #[v] w fun e w'=>e= .returned (.bool (netOk n))∧Below w.heap.size w w':=by
 obtain⟨u1,u2,rfl,r1,r2,hsm⟩:=h
 obtain⟨a1,m1,c1,rfl,HN1,hc1,hm1,ha1⟩:=flt_opn (m:=1) (enc:=strE) (fun _=>rfl) (by omega) nilS r1
 obtain⟨a2,m2,c2,rfl,HN2,hc2,hm2,ha2⟩:=flt_opn (m:=4) (enc:=fibE) (fun _=>rfl) (by omega) nilB r2
 have HNM:=Lib.hid (fun i hi h=>@netOk_nm n i hi h)
 have HFB:=Lib.hid (fun i hi h=>@netOk_fb n i hi h)
 have HALL:=Lib.hid (@netOk_all n)
 rw[HN1.out,HN2.out] at HALL
 rw[HN1.out] at HNM
 rw[HN2.out] at HFB
 generalize netOk n=q at *
 obtain⟨bx,bc,blt,-⟩:=box_facts w #[.slice a1 m1 c1,.slice a2 m2 c2] 35
 have q0:=bc 0 _ rfl
 have q1:=bc 1 _ rfl
 have HA1:=Lib.hid ha1
 have HA2:=Lib.hid ha2
 have HR1:=Lib.hid (r1.behind bx)
 have HBX:=Lib.hid bx
 have HSM:=Lib.hid hsm
 clear bc ha1 ha2 r1 r2 bx hsm
 go_enter Tryz.func78,Tryz.ntmps78
 go_wp2
 generalize w.alloc (.cells #[.slice a1 m1 c1,.slice a2 m2 c2] 35)=w1 at *
 go_loopw [3,4,10] (fun _ _ i wr=>∃k:Nat,k≤m1∧i= .int .i64 k∧Hid (∀i,i<k→nmOk n i=true)∧Hid (Below w1.heap.size w1 wr)) (fun _ _ i _=>m1-(intOf i).toNat)
 case atStart=>exact⟨0,Nat.zero_le _,rfl,fun i hi=>by omega,Below.refl _ _⟩
 case round=>
  obtain⟨k,hk,rfl,HK,HB⟩:=hrel
  have p0:=(HB.out.cell blt).trans q0
  have p1:=(HB.out.cell blt).trans q1
  by_cases hlt:k<m1
  · have hltI:(k:Int)<(m1:Int):=by omega
    have hkx:k<n.ns.length:=by rw[HN1.out];exact hlt
    obtain⟨b,off,rfl,hbs,hcs⟩:=HA1.out (by omega)
    have hc0:=hcs k hlt 0 _ rfl
    rw[Nat.mul_one,Nat.add_zero] at hc0
    have hcw:=(HB.out.cell (p:=⟨b,off+k,none⟩) (Nat.lt_of_lt_of_le hbs HBX.out.size)).trans ((HBX.out.cell hbs).trans hc0)
    have HNA:=Lib.hid (fun w=>isName_any (nmA n k) w (Nat.le_trans (HSM.out k) (by decide)))
    have HCO:=Lib.hid (fun N=>containsS_any _ (n.ns.take k) (nmA n k) (wr.drewN N) ((flt_take (m:=1) (enc:=strE) (fun _=>rfl) (by omega) (HR1.out.behind HB.out) hk).behind ((Dr.refl _).drewN N |>.below (Below.refl _ _))))
    have HV:=Lib.hid (show nmOk n k=(nameOk (nmA n k)&&decide (plc n.ns (nmA n k)=(k:Int))) from rfl)
    have HPL:=Lib.hid (plc_pre hkx)
    have HST:=Lib.hid (fun h=>upto_succ HK.out (k:=k) h)
    have HNO:=Lib.hid (HNM.out k hlt)
    clear hcs hc0 hkx
    unfold nmA at *
    generalize hx:n.ns[k]?.getD nilS=x at *
    have hkI:(0:Int)≤(k:Int):=by omega
    have hkI2:(k:Int)≤(c1:Int):=by omega
    clear hx
    cases hN:nameOk x
    · have HF:=Lib.hid (HNO.out (by rw[HV.out,hN];rfl))
      clear HNO HST HPL HV HCO
      rw[hN] at HNA
      clear hN
      go_wp2_with (go_at_call 128;refine(HNA.out _).mono ?_;rintro e w' ⟨rfl,n',rfl⟩)
      go_ret
      exact⟨by rw[HF.out];rfl,HBX.out.trans ((HB.out.mono HBX.out.size).trans (((Dr.refl _).drewN n').below (Below.refl _ _)))⟩
    cases hP:decide (plc n.ns x=(k:Int))
    · have HF:=Lib.hid (HNO.out (by rw[HV.out,hN,hP];rfl))
      rw[hN] at HNA
      have hpl:=HPL.out
      rw[hP] at hpl
      rw[hpl] at HCO
      clear HNO HST HPL HV hN hP hpl
      go_wp2_with (first | (go_at_call 128;refine(HNA.out _).mono ?_;rintro e w' ⟨rfl,n',rfl⟩) | (go_at_call 129;refine(HCO.out _).mono ?_;rintro e w' ⟨rfl,rfl⟩))
      go_ret
      exact⟨by rw[HF.out];rfl,HBX.out.trans ((HB.out.mono HBX.out.size).trans (((Dr.refl _).drewN n').below (Below.refl _ _)))⟩
    · have HS:=Lib.hid (HST.out (by rw[HV.out,hN,hP];rfl))
      rw[hN] at HNA
      have hpl:=HPL.out
      rw[hP] at hpl
      rw[hpl] at HCO
      clear HNO HST HPL HV hN hP hpl
      go_wp2_with (first | (go_at_call 128;refine(HNA.out _).mono ?_;rintro e w' ⟨rfl,n',rfl⟩) | (go_at_call 129;refine(HCO.out _).mono ?_;rintro e w' ⟨rfl,rfl⟩))
      go_roundw
      case rel=>exact⟨k+1,hlt,by go_num,HS.out,HB.out.trans (((Dr.refl _).drewN n').below (Below.refl _ _))⟩
      case measure=>simp[intOf];omega
  · obtain rfl:m1=k:=by omega
    have HAL1:=Lib.hid (HALL.out HK.out)
    clear HALL HK HNM HR1
    go_wp2
    go_loopw [5,6,30] (fun _ _ i wr=>∃k:Nat,k≤m2∧i= .int .i64 k∧Hid (∀i,i<k→fbOk n i=true)∧Hid (Below w1.heap.size w1 wr)) (fun _ _ i _=>m2-(intOf i).toNat)
    case atStart=>exact⟨0,Nat.zero_le _,rfl,fun i hi=>by omega,HB.out⟩
    case round=>
     clear HB p0 p1
     obtain⟨k,hk,rfl,HK,HB⟩:=hrel
     have p0:=(HB.out.cell blt).trans q0
     have p1:=(HB.out.cell blt).trans q1
     by_cases hlt:k<m2
     · have hltI:(k:Int)<(m2:Int):=by omega
       obtain⟨b,off,rfl,hbs,hcs⟩:=HA2.out (by omega)
       have hcw:=fun(i:Nat) (hi:i<m2) (r:Nat) (u:Value) (hu:(fibE (n.fs[i]?.getD nilB))[r]?= some u)=>(HB.out.cell (p:=⟨b,off+i*4+r,none⟩) (Nat.lt_of_lt_of_le hbs HBX.out.size)).trans ((HBX.out.cell hbs).trans (hcs i hi r u hu))
       have HA3:=Lib.hid hcs
       have HST:=Lib.hid (fun h=>upto_succ HK.out (k:=k) h)
       have HNO:=Lib.hid (HFB.out k hlt)
       have HV:=Lib.hid (show fbOk n k=(fibOk (fbA n k) n.ns.length && !(decide (0<k)&&fibGt (fbA n (k-1)) (fbA n k))) from rfl)
       rw[HN1.out] at HV
       have c0:=hcw k hlt 0 _ rfl
       have c1:=hcw k hlt 1 _ rfl
       have c2:=hcw k hlt 2 _ rfl
       have c3:=hcw k hlt 3 _ rfl
       simp only[Nat.add_zero] at c0
       clear hcs hcw
       unfold fbA at *
       have HFC:=Lib.hid (fib_cases (n.fs[k]?.getD nilB) m1)
       generalize n.fs[k]?.getD nilB=f at *
       obtain⟨bf,bfc,bfl,-⟩:=box_facts wr #[.int .i64 f.a,.int .i64 f.b,.int .i64 f.l,.int .i64 f.r] 146
       have HBF:=Lib.hid (HB.out.trans (bf.mono HB.out.size))
       have f0:=bfc 0 _ rfl
       have f1:=bfc 1 _ rfl
       have f2:=bfc 2 _ rfl
       have f3:=bfc 3 _ rfl
       have g0:=(HBF.out.cell blt).trans q0
       have g1:=(HBF.out.cell blt).trans q1
       clear bf bfc bfl
       rcases HFC.out with ⟨d1,hok⟩ | ⟨d1,d2,hok⟩ | ⟨d1,d2,d3,hok⟩ | ⟨d1,d2,d3,d4,hok⟩ | ⟨d1,d2,d3,d4,d5,hok⟩ | ⟨d1,d2,d3,d4,d5,hok⟩
       rotate_left 5
       · by_cases hk0:k=0
         · have hk0b:decide (0<k)=false:=decide_eq_false (by omega)
           have hk0c:decide (0<(k:Int))=false:=decide_eq_false (by omega)
           have hv:=HV.out
           rw[hok,decide_eq_false (show¬0<k by omega)] at hv
           have HV2:=Lib.hid hv
           clear hv HV hk0
           have HS:=Lib.hid (HST.out (by rw[HV2.out];rfl))
           clear hok
           go_wp2
           generalize wr.alloc (.cells #[.int .i64 f.a,.int .i64 f.b,.int .i64 f.l,.int .i64 f.r] 146)=w2 at *
           have j0:=rg f0
           have j1:=rg f1
           have j2:=rg f2
           have j3:=rg f3
           have j4:=rg g0
           have j5:=rg g1
           clear f0 f1 f2 f3 g0 g1 p0 p1
           refine wp_region_quiet_below (by kernel_rfl) (by kernel_rfl) ?_
           repeat (go_big_quiet_step (first | (go_at_call 74;exact rg_same (within_any _ _ _ _))))
           refine wpQuiet_nil ?_
           rintro _ ⟨⟨dq,osq⟩,rfl⟩
           go_wp2
           go_roundw
           case rel=>exact⟨k+1,hlt,by go_num,HS.out,HBF.out.trans ((below_regrown _ dq osq).mono HBF.out.size)⟩
           case measure=>simp[intOf];omega
         · obtain⟨k',hk'⟩:∃k',k=k'+1:=⟨k-1,by omega⟩
           have HKK:=Lib.hid hk'
           have o0:=(HBF.out.cell (p:=⟨b,off+k'*4+0,none⟩) (Nat.lt_of_lt_of_le hbs HBX.out.size)).trans ((HBX.out.cell hbs).trans (HA3.out k' (by omega) 0 _ rfl))
           have o1:=(HBF.out.cell (p:=⟨b,off+k'*4+1,none⟩) (Nat.lt_of_lt_of_le hbs HBX.out.size)).trans ((HBX.out.cell hbs).trans (HA3.out k' (by omega) 1 _ rfl))
           have o2:=(HBF.out.cell (p:=⟨b,off+k'*4+2,none⟩) (Nat.lt_of_lt_of_le hbs HBX.out.size)).trans ((HBX.out.cell hbs).trans (HA3.out k' (by omega) 2 _ rfl))
           have o3:=(HBF.out.cell (p:=⟨b,off+k'*4+3,none⟩) (Nat.lt_of_lt_of_le hbs HBX.out.size)).trans ((HBX.out.cell hbs).trans (HA3.out k' (by omega) 3 _ rfl))
           simp only[Nat.add_zero] at o0
           have HCF:=Lib.hid (fun w=>compareFibers_any (n.fs[k']?.getD nilB) f w)
           have HGT:=Lib.hid (cmpF_gt (n.fs[k']?.getD nilB) f)
           have hv:=HV.out
           rw[hok,show k-1=k' by omega,decide_eq_true (show 0<k by omega)] at hv
           have HV2:=Lib.hid hv
           clear hok hv HV
           generalize n.fs[k']?.getD nilB=g at *
           have hkp:(0:Int)<(k:Int):=by omega
           have hkd:decide (0<(k:Int))=true:=decide_eq_true hkp
           have hke:decide (0<k)=true:=decide_eq_true (by omega)
           have f1w:IntKind.i64.wrap ((k:Int)-1)=(k':Int):=by rw[IntWalk.i64_in _ (by omega)];omega
           have f2w:(k':Int)<(m2:Int):=by omega
           clear hk' hk0
           unfold fibV at HCF
           generalize cmpF g f=cc at *
           cases hgt:fibGt g f
           · have HS:=Lib.hid (HST.out (by rw[HV2.out,hgt];simp))
             have hdc:decide (0<cc)=false:=by rw[HGT.out,hgt]
             clear hgt HNO HST HV2 HGT
             go_wp2
             generalize wr.alloc (.cells #[.int .i64 f.a,.int .i64 f.b,.int .i64 f.l,.int .i64 f.r] 146)=w2 at *
             have j0:=rg f0
             have j1:=rg f1
             have j2:=rg f2
             have j3:=rg f3
             have j4:=rg g0
             have j5:=rg g1
             have t0:=rg o0
             have t1:=rg o1
             have t2:=rg o2
             have t3:=rg o3
             clear f0 f1 f2 f3 g0 g1 p0 p1 o0 o1 o2 o3
             refine wp_region_quiet_below (by kernel_rfl) (by kernel_rfl) ?_
             repeat (go_big_quiet_step (first | (go_at_call 74;exact rg_same (within_any _ _ _ _)) | (go_at_call 130;exact Calls.regrown_of (HCF.out _))))
             refine wpQuiet_nil ?_
             rintro _ ⟨⟨dq,osq⟩,rfl⟩
             go_wp2
             go_roundw
             case rel=>exact⟨k+1,hlt,by go_num,HS.out,HBF.out.trans ((below_regrown _ dq osq).mono HBF.out.size)⟩
             case measure=>simp[intOf];omega
           · have HF:=Lib.hid (HNO.out (by rw[HV2.out,hgt];simp))
             have hdc:decide (0<cc)=true:=by rw[HGT.out,hgt]
             clear hgt HNO HST HV2 HGT
             go_wp2
             generalize wr.alloc (.cells #[.int .i64 f.a,.int .i64 f.b,.int .i64 f.l,.int .i64 f.r] 146)=w2 at *
             have j0:=rg f0
             have j1:=rg f1
             have j2:=rg f2
             have j3:=rg f3
             have j4:=rg g0
             have j5:=rg g1
             have t0:=rg o0
             have t1:=rg o1
             have t2:=rg o2
             have t3:=rg o3
             clear f0 f1 f2 f3 g0 g1 p0 p1 o0 o1 o2 o3
             refine wp_region_quiet_below (by kernel_rfl) (by kernel_rfl) ?_
             repeat (go_big_quiet_step (first | (go_at_call 74;exact rg_same (within_any _ _ _ _)) | (go_at_call 130;exact Calls.regrown_of (HCF.out _))))
             refine wpQuiet_nil ?_
             rintro _ ⟨⟨dq,osq⟩,rfl⟩
             go_wp2
             go_ret
             exact⟨by rw[HF.out];rfl,HBX.out.trans ((HBF.out.mono HBX.out.size).trans ((below_regrown _ dq osq).mono (Nat.le_trans HBX.out.size HBF.out.size)))⟩
       all_goals
        have HF:=Lib.hid (HNO.out (by rw[HV.out,hok];rfl))
        clear hok
        go_wp2
        generalize wr.alloc (.cells #[.int .i64 f.a,.int .i64 f.b,.int .i64 f.l,.int .i64 f.r] 146)=w2 at *
        have j0:=rg f0
        have j1:=rg f1
        have j2:=rg f2
        have j3:=rg f3
        have j4:=rg g0
        have j5:=rg g1
        clear f0 f1 f2 f3 g0 g1 p0 p1
        refine wp_region_quiet_below (by kernel_rfl) (by kernel_rfl) ?_
        repeat (go_big_quiet_step (first | (go_at_call 74;exact rg_same (within_any _ _ _ _))))
        refine wpQuiet_nil ?_
        rintro _ ⟨⟨dq,osq⟩,rfl⟩
        go_wp2
        go_ret
        exact⟨by rw[HF.out];rfl,HBX.out.trans ((HBF.out.mono HBX.out.size).trans ((below_regrown _ dq osq).mono (Nat.le_trans HBX.out.size HBF.out.size)))⟩
     · obtain rfl:m2=k:=by omega
       have HE:=Lib.hid (HAL1.out HK.out)
       have HV:=Lib.hid (show decide (2≤m1∧m1≤8∧m2≤14)=(inB (m1:Int) 2 8&&decide (m2≤14)) by unfold inB;rw[Bool.eq_iff_iff];simp;omega)
       cases hin:inB (m1:Int) 2 8
       · go_wp2_with (go_at_call 74;refine(within_any _ _ _ _).mono ?_;rintro e w' ⟨rfl,rfl⟩;rw[hin])
         go_ret
         exact⟨by rw[HE.out,HV.out,hin];rfl,HBX.out.trans (HB.out.mono HBX.out.size)⟩
       · by_cases h14:(m2:Int)≤14
         · have hd:decide ((m2:Int)≤14)=true:=decide_eq_true h14
           have hd2:decide (m2≤14)=true:=decide_eq_true (by omega)
           clear h14
           go_wp2_with (go_at_call 74;refine(within_any _ _ _ _).mono ?_;rintro e w' ⟨rfl,rfl⟩;rw[hin])
           go_ret
           exact⟨by rw[HE.out,HV.out,hin,hd2];rfl,HBX.out.trans (HB.out.mono HBX.out.size)⟩
         · have hd:decide ((m2:Int)≤14)=false:=decide_eq_false h14
           have hd2:decide (m2≤14)=false:=decide_eq_false (by omega)
           clear h14
           go_wp2_with (go_at_call 74;refine(within_any _ _ _ _).mono ?_;rintro e w' ⟨rfl,rfl⟩;rw[hin])
           go_ret
           exact⟨by rw[HE.out,HV.out,hin,hd2];rfl,HBX.out.trans (HB.out.mono HBX.out.size)⟩
theorem l2Good_any (v:Value) (n:Net) (w:World) (h:NetR w v n):
 Calls Tryz.prog 126 #[v] w fun e w'=>e= .returned (.bool (netOk n))∧Below w.heap.size w w':=by
 obtain⟨u1,u2,rfl,r1,r2,hsm⟩:=h
 obtain⟨a1,m1,c1,rfl,HN1,hc1,hm1,ha1⟩:=flt_opn (m:=1) (enc:=strE) (fun _=>rfl) (by omega) nilS r1
 obtain⟨a2,m2,c2,rfl,HN2,hc2,hm2,ha2⟩:=flt_opn (m:=4) (enc:=fibE) (fun _=>rfl) (by omega) nilB r2
 have HNM:=Lib.hid (fun i hi h=>@netOk_nm n i hi h)
 have HFB:=Lib.hid (fun i hi h=>@netOk_fb n i hi h)
 have HALL:=Lib.hid (@netOk_all n)
 have HSZ:=Lib.hid (@netOk_sz n)
 rw[HN1.out,HN2.out] at HALL HSZ
 rw[HN1.out] at HNM
 rw[HN2.out] at HFB
 generalize netOk n=q at *
 obtain⟨bx,bc,blt,-⟩:=box_facts w #[.slice a1 m1 c1,.slice a2 m2 c2] 35
 have q0:=bc 0 _ rfl
 have q1:=bc 1 _ rfl
 have HA1:=Lib.hid ha1
 have HA2:=Lib.hid ha2
 have HR1:=Lib.hid (r1.behind bx)
 have HBX:=Lib.hid bx
 have HSM:=Lib.hid hsm
 clear bc ha1 ha2 r1 r2 bx hsm
 go_enter Tryz.func126,Tryz.ntmps126
 by_cases hsz:2≤m1∧m1≤8∧m2≤14
 case neg=>
  have HF:=Lib.hid (HSZ.out hsz)
  by_cases h1:2≤m1∧m1≤8
  · have hin:inB (m1:Int) 2 8=true:=by unfold inB;simp;omega
    have hd:decide (14<(m2:Int))=true:=decide_eq_true (by omega)
    have hd2:decide (14<m2)=true:=decide_eq_true (by omega)
    clear hsz h1
    go_wp2_with (go_at_call 77;refine(l1In_any _ _ _ _).mono ?_;rintro e w' ⟨rfl,rfl⟩;rw[hin])
    go_ret
    exact⟨by rw[HF.out];rfl,HBX.out⟩
  · have hin:inB (m1:Int) 2 8=false:=by
     by_cases h2:2≤m1
     · unfold inB;simp;omega
     · unfold inB;simp;omega
    clear hsz h1
    go_wp2_with (go_at_call 77;refine(l1In_any _ _ _ _).mono ?_;rintro e w' ⟨rfl,rfl⟩;rw[hin])
    go_ret
    exact⟨by rw[HF.out];rfl,HBX.out⟩
 have hin:inB (m1:Int) 2 8=true:=by unfold inB;simp;omega
 have hd:decide (14<(m2:Int))=false:=decide_eq_false (by omega)
 have hd2:decide (14<m2)=false:=decide_eq_false (by omega)
 obtain⟨z1,z2,z3⟩:=hsz
 rw[decide_eq_true (show 2≤m1∧m1≤8∧m2≤14 from⟨z1,z2,z3⟩)] at HALL
 clear HSZ
 go_wp2_with (go_at_call 77;refine(l1In_any _ _ _ _).mono ?_;rintro e w' ⟨rfl,rfl⟩;rw[hin])
 generalize w.alloc (.cells #[.slice a1 m1 c1,.slice a2 m2 c2] 35)=w1 at *
 clear hin hd hd2
 go_loopw [3] (fun i wr=>∃k:Nat,k≤m1∧i= .int .i64 k∧Hid (∀i,i<k→nmOk n i=true)∧Hid (Below w1.heap.size w1 wr)) (fun i _=>m1-(intOf i).toNat)
 case atStart=>exact⟨0,Nat.zero_le _,rfl,fun i hi=>by omega,Below.refl _ _⟩
 case round=>
  obtain⟨k,hk,rfl,HK,HB⟩:=hrel
  have p0:=(HB.out.cell blt).trans q0
  have p1:=(HB.out.cell blt).trans q1
  by_cases hlt:k<m1
  · have hltI:(k:Int)<(m1:Int):=by omega
    have hkx:k<n.ns.length:=by rw[HN1.out];exact hlt
    obtain⟨b,off,rfl,hbs,hcs⟩:=HA1.out (by omega)
    have hc0:=hcs k hlt 0 _ rfl
    rw[Nat.mul_one,Nat.add_zero] at hc0
    have hcw:=(HB.out.cell (p:=⟨b,off+k,none⟩) (Nat.lt_of_lt_of_le hbs HBX.out.size)).trans ((HBX.out.cell hbs).trans hc0)
    have HNA:=Lib.hid (fun w=>l2Name_any (nmA n k) w (Nat.le_trans (HSM.out k) (by decide)))
    have HFI:=Lib.hid (fun d os=>l2Find_any _ n.ns (nmA n k) _ ((HR1.out.behind HB.out).rg d os))
    have HV:=Lib.hid (show nmOk n k=(nameOk (nmA n k)&&decide (plc n.ns (nmA n k)=(k:Int))) from rfl)
    have HST:=Lib.hid (fun h=>upto_succ HK.out (k:=k) h)
    have HNO:=Lib.hid (HNM.out k hlt)
    clear hcs hc0 hkx
    unfold nmA at *
    generalize hx:n.ns[k]?.getD nilS=x at *
    clear hx
    cases hN:nameOk x
    · have HF:=Lib.hid (HNO.out (by rw[HV.out,hN];rfl))
      clear HNO HST HV HFI
      rw[hN] at HNA
      clear hN
      go_wp2
      have j0:=rg p0
      have j1:=rg p1
      have j2:=rg hcw
      clear p0 p1 hcw
      refine wp_region_quiet_below (by kernel_rfl) (by kernel_rfl) ?_
      repeat (go_big_quiet_step (first | (go_at_call 168;exact rg_same (HNA.out _))))
      refine wpQuiet_nil ?_
      rintro _ ⟨⟨dq,osq⟩,rfl⟩
      go_wp2
      go_ret
      exact⟨by rw[HF.out];rfl,HBX.out.trans ((HB.out.mono HBX.out.size).trans ((below_regrown _ dq osq).mono (Nat.le_trans HBX.out.size HB.out.size)))⟩
    rw[hN] at HNA HV
    have HV2:=Lib.hid (show nmOk n k=decide (plc n.ns x=(k:Int)) by rw[HV.out];simp)
    clear hN HV
    generalize plc n.ns x=pl at *
    have hne:(pl != (k:Int))= !decide (pl=(k:Int)):=rfl
    cases hP:decide (pl=(k:Int))
    · have HF:=Lib.hid (HNO.out (by rw[HV2.out,hP]))
      rw[hP] at hne
      have hne2:(pl != (k:Int))=true:=hne
      clear HNO HST HV2 hP hne
      go_wp2
      have j0:=rg p0
      have j1:=rg p1
      have j2:=rg hcw
      clear p0 p1 hcw
      refine wp_region_quiet_below (by kernel_rfl) (by kernel_rfl) ?_
      repeat (go_big_quiet_step (first | (go_at_call 168;exact rg_same (HNA.out _)) | (go_at_call 169;exact rg_same (HFI.out _ _))))
      refine wpQuiet_nil ?_
      rintro _ ⟨⟨dq,osq⟩,rfl⟩
      go_wp2
      go_ret
      exact⟨by rw[HF.out];rfl,HBX.out.trans ((HB.out.mono HBX.out.size).trans ((below_regrown _ dq osq).mono (Nat.le_trans HBX.out.size HB.out.size)))⟩
    · have HS:=Lib.hid (HST.out (by rw[HV2.out,hP]))
      rw[hP] at hne
      have hne2:(pl != (k:Int))=false:=hne
      clear HNO HST HV2 hP hne
      go_wp2
      have j0:=rg p0
      have j1:=rg p1
      have j2:=rg hcw
      clear p0 p1 hcw
      refine wp_region_quiet_below (by kernel_rfl) (by kernel_rfl) ?_
      repeat (go_big_quiet_step (first | (go_at_call 168;exact rg_same (HNA.out _)) | (go_at_call 169;exact rg_same (HFI.out _ _))))
      refine wpQuiet_nil ?_
      rintro _ ⟨⟨dq,osq⟩,rfl⟩
      go_wp2
      go_roundw
      case rel=>exact⟨k+1,hlt,by go_num,HS.out,HB.out.trans ((below_regrown _ dq osq).mono HB.out.size)⟩
      case measure=>simp[intOf];omega
  · obtain rfl:m1=k:=by omega
    have HAL1:=Lib.hid (HALL.out HK.out)
    clear HALL HK HNM HR1
    go_wp2
    go_loopw [4] (fun i wr=>∃k:Nat,k≤m2∧i= .int .i64 k∧Hid (∀i,i<k→fbOk n i=true)∧Hid (Below w1.heap.size w1 wr)) (fun i _=>m2-(intOf i).toNat)
    case atStart=>exact⟨0,Nat.zero_le _,rfl,fun i hi=>by omega,HB.out⟩
    case round=>
     clear HB p0 p1
     obtain⟨k,hk,rfl,HK,HB⟩:=hrel
     have p0:=(HB.out.cell blt).trans q0
     have p1:=(HB.out.cell blt).trans q1
     by_cases hlt:k<m2
     · have hltI:(k:Int)<(m2:Int):=by omega
       obtain⟨b,off,rfl,hbs,hcs⟩:=HA2.out (by omega)
       have hcw:=fun(i:Nat) (hi:i<m2) (r:Nat) (u:Value) (hu:(fibE (n.fs[i]?.getD nilB))[r]?= some u)=>(HB.out.cell (p:=⟨b,off+i*4+r,none⟩) (Nat.lt_of_lt_of_le hbs HBX.out.size)).trans ((HBX.out.cell hbs).trans (hcs i hi r u hu))
       have HC:=Lib.hid hcw
       have HST:=Lib.hid (fun h=>upto_succ HK.out (k:=k) h)
       have HNO:=Lib.hid (HFB.out k hlt)
       have HV:=Lib.hid (show fbOk n k=(fibOk (fbA n k) n.ns.length && !(decide (0<k)&&fibGt (fbA n (k-1)) (fbA n k))) from rfl)
       rw[HN1.out] at HV
       have c0:=hcw k hlt 0 _ rfl
       have c1:=hcw k hlt 1 _ rfl
       have c2:=hcw k hlt 2 _ rfl
       have c3:=hcw k hlt 3 _ rfl
       simp only[Nat.add_zero] at c0
       have j0:=rg c0
       have j1:=rg c1
       have j2:=rg c2
       have j3:=rg c3
       have j4:=rg p0
       have j5:=rg p1
       clear hcs hcw c0 c1 c2 c3
       unfold fbA at *
       have HFI:=Lib.hid (fun w=>l2Fiber_any (n.fs[k]?.getD nilB) m1 w (by omega))
       have HSMK:=Lib.hid (fun h=>@fibOk_small (n.fs[k]?.getD nilB) m1 h (by omega))
       generalize n.fs[k]?.getD nilB=f at *
       unfold fibV at HFI
       generalize hok:fibOk f m1=ok at *
       cases ok
       · have HF:=Lib.hid (HNO.out (by rw[HV.out];rfl))
         clear hok HNO HST HV
         go_wp2
         clear p0 p1
         refine wp_region_quiet_below (by kernel_rfl) (by kernel_rfl) ?_
         repeat (go_big_quiet_step (first | (go_at_call 170;exact Calls.regrown_of (HFI.out _))))
         refine wpQuiet_nil ?_
         rintro _ ⟨⟨dq,osq⟩,rfl⟩
         go_wp2
         go_ret
         exact⟨by rw[HF.out];rfl,HBX.out.trans ((HB.out.mono HBX.out.size).trans ((below_regrown _ dq osq).mono (Nat.le_trans HBX.out.size HB.out.size)))⟩
       by_cases hk0:k=0
       · have hk0b:decide (0<k)=false:=decide_eq_false (by omega)
         have hk0c:decide (0<(k:Int))=false:=decide_eq_false (by omega)
         have hv:=HV.out
         rw[decide_eq_false (show¬0<k by omega)] at hv
         have HS:=Lib.hid (HST.out (by rw[hv];rfl))
         clear hok hk0 hv HV
         go_wp2
         clear p0 p1
         refine wp_region_quiet_below (by kernel_rfl) (by kernel_rfl) ?_
         repeat (go_big_quiet_step (first | (go_at_call 170;exact Calls.regrown_of (HFI.out _))))
         refine wpQuiet_nil ?_
         rintro _ ⟨⟨dq,osq⟩,rfl⟩
         go_wp2
         go_roundw
         case rel=>exact⟨k+1,hlt,by go_num,HS.out,HB.out.trans ((below_regrown _ dq osq).mono HB.out.size)⟩
         case measure=>simp[intOf];omega
       · obtain⟨k',hk'⟩:∃k',k=k'+1:=⟨k-1,by omega⟩
         have hgo:=HK.out k' (by omega)
         have o0:=HC.out k' (by omega) 0 _ rfl
         have o1:=HC.out k' (by omega) 1 _ rfl
         have o2:=HC.out k' (by omega) 2 _ rfl
         have o3:=HC.out k' (by omega) 3 _ rfl
         simp only[Nat.add_zero] at o0
         have t0:=rg o0
         have t1:=rg o1
         have t2:=rg o2
         have t3:=rg o3
         have hsg:smallF (n.fs[k']?.getD nilB):=by
          unfold fbOk fbA at hgo
          rw[HN1.out] at hgo
          simp only[Bool.and_eq_true] at hgo
          exact fibOk_small hgo.1 (by omega)
         have HCF:=Lib.hid (fun w=>l2Before_any (n.fs[k']?.getD nilB) f w hsg (HSMK.out rfl))
         have HGT:=Lib.hid (befF_gt (n.fs[k']?.getD nilB) f)
         have hv:=HV.out
         rw[show k-1=k' by omega,decide_eq_true (show 0<k by omega)] at hv
         have HV2:=Lib.hid hv
         clear hok hv HV o0 o1 o2 o3 hgo hsg HSMK
         generalize n.fs[k']?.getD nilB=g at *
         have hkp:(0:Int)<(k:Int):=by omega
         have hkd:decide (0<(k:Int))=true:=decide_eq_true hkp
         have hke:decide (0<k)=true:=decide_eq_true (by omega)
         have f1w:IntKind.i64.wrap ((k:Int)-1)=(k':Int):=by rw[IntWalk.i64_in _ (by omega)];omega
         have f2w:(k':Int)<(m2:Int):=by omega
         clear hk' hk0
         unfold fibV at HCF
         generalize befF g f=cc at *
         cases hgt:fibGt g f
         · have HS:=Lib.hid (HST.out (by rw[HV2.out,hgt];simp))
           have hdc:decide (0<cc)=false:=by rw[HGT.out,hgt]
           clear hgt HNO HST HV2 HGT
           go_wp2
           clear p0 p1
           refine wp_region_quiet_below (by kernel_rfl) (by kernel_rfl) ?_
           repeat (go_big_quiet_step (first | (go_at_call 170;exact Calls.regrown_of (HFI.out _)) | (go_at_call 171;exact Calls.regrown_of (HCF.out _))))
           refine wpQuiet_nil ?_
           rintro _ ⟨⟨dq,osq⟩,rfl⟩
           go_wp2
           go_roundw
           case rel=>exact⟨k+1,hlt,by go_num,HS.out,HB.out.trans ((below_regrown _ dq osq).mono HB.out.size)⟩
           case measure=>simp[intOf];omega
         · have HF:=Lib.hid (HNO.out (by rw[HV2.out,hgt];simp))
           have hdc:decide (0<cc)=true:=by rw[HGT.out,hgt]
           clear hgt HNO HST HV2 HGT
           go_wp2
           clear p0 p1
           refine wp_region_quiet_below (by kernel_rfl) (by kernel_rfl) ?_
           repeat (go_big_quiet_step (first | (go_at_call 170;exact Calls.regrown_of (HFI.out _)) | (go_at_call 171;exact Calls.regrown_of (HCF.out _))))
           refine wpQuiet_nil ?_
           rintro _ ⟨⟨dq,osq⟩,rfl⟩
           go_wp2
           go_ret
           exact⟨by rw[HF.out];rfl,HBX.out.trans ((HB.out.mono HBX.out.size).trans ((below_regrown _ dq osq).mono (Nat.le_trans HBX.out.size HB.out.size)))⟩
     · obtain rfl:m2=k:=by omega
       have HE:=Lib.hid (HAL1.out HK.out)
       go_wp2
       go_ret
       exact⟨by rw[HE.out];rfl,HBX.out.trans (HB.out.mono HBX.out.size)⟩
open Go.RowKit
theorem kept_o' {X Y:World} {b:Nat} {x:Obj} (h:X.heap[b]?= some x) (hb:Below X.heap.size X Y):Y.heap[b]?= some x:=by
 rw[hb.block b (Array.getElem?_eq_some_iff.1 h).1];exact h
section
variable {α : Type}
theorem flatV_at {enc:α→List Value} {m:Nat} (hm:∀z,(enc z).length=m):∀(zs:List α) (i r:Nat),r<m→(zs.flatMap enc)[i*m+r]?= (zs[i]?).bind fun z=>(enc z)[r]?
 | [],i,r,_=>by simp
 | z::zs,0,r,h=>by
   rw[List.flatMap_cons,List.getElem?_append_left (by rw[hm];omega)]
   simp
 | z::zs,i+1,r,h=>by
   rw[List.flatMap_cons,List.getElem?_append_right (by rw[hm,Nat.add_mul];omega),hm,show(i+1)*m+r-m=i*m+r by rw[Nat.add_mul];omega,flatV_at hm zs i r h]
   simp
theorem madeCells_flat {enc:α→List Value} {m:Nat} (hm:∀z,(enc z).length=m) (hm0:0<m) (nil:α) (zc:Array Value) (hz:zc.toList=enc nil) (n:Nat):(madeCells zc (n*m)).toList=(List.replicate n nil).flatMap enc:=by
 have hs:zc.size=m:=by rw[←Array.length_toList,hz,hm]
 apply List.ext_getElem?
 intro j
 obtain⟨i,r,hr,rfl⟩:∃i r,r<m∧j=i*m+r:=⟨j/m,j%m,Nat.mod_lt _ hm0,by rw[Nat.mul_comm];exact(Nat.div_add_mod j m).symm⟩
 rw[flatV_at hm _ i r hr]
 have hmod:(i*m+r)%m=r:=by rw[Nat.mul_comm,Nat.mul_add_mod];exact Nat.mod_eq_of_lt hr
 by_cases hi:i<n
 · have hlt:i*m+r<n*m:=by
    have:=Nat.mul_le_mul_right m (show i+1≤n by omega)
    rw[Nat.add_mul] at this;omega
   have hre:(List.replicate n nil)[i]?= some nil:=by simp[hi]
   rw[hre,Option.bind_some,←hz,Array.getElem?_toList,Array.getElem?_toList]
   unfold madeCells
   rw[Array.getElem?_map,Array.getElem?_range,if_pos hlt,Option.map_some,hs,hmod]
   simp[hs,hr]
 · have hge:n*m≤i*m+r:=by
    have:=Nat.mul_le_mul_right m (show n≤i by omega)
    omega
   have hre:(List.replicate n nil)[i]?= none:=by simp;omega
   rw[hre,Option.bind_none,Array.getElem?_toList]
   unfold madeCells
   rw[Array.getElem?_map,Array.getElem?_range,if_neg (by omega)]
   rfl
theorem made_flat {enc:α→List Value} {m:Nat} {w:World} {base n:Nat} {T:TypeId} {v:Value} (hm:∀z,(enc z).length=m) (hm0:0<m) (nil:α) {zc:Array Value} (hz:zc.toList=enc nil) (h:w.ownsRow base T m v n (madeCells zc (n*m)).toList):Ofr w base (flt m enc (List.replicate n nil)) v:=by
 rw[madeCells_flat hm hm0 nil zc hz] at h
 exact flt_of_row h
theorem setRow_below {B:Nat} {w:World} {g:Nat} (hB:B≤g) (us:List Value):∀(w':World) (o:Nat),Below B w w'→Below B w (setRow w' g o us):=by
 induction us with
 | nil=>intro w' o h;exact h
 | cons u us ih=>intro w' o h;exact ih _ _ (h.setCell (p:=⟨g,o,none⟩) hB _)
def fillG (nil:α) (zs:List α) (n k:Nat):List α:=zs.take k++List.replicate (n-k) nil
theorem fillG_zero (nil:α) (zs:List α) (n:Nat):fillG nil zs n 0=List.replicate n nil:=by simp[fillG]
theorem fillG_all (nil:α) (zs:List α) (n:Nat) (h:zs.length=n):fillG nil zs n n=zs:=by simp[fillG,←h]
theorem fillG_len (nil:α) (zs:List α) (n k:Nat) (h:zs.length=n) (hk:k≤n):(fillG nil zs n k).length=n:=by simp[fillG];omega
theorem fillG_step (nil:α) (zs:List α) (n k:Nat) (h:zs.length=n) (hk:k<n):(fillG nil zs n k).set k (zs[k]?.getD nil)=fillG nil zs n (k+1):=by
 unfold fillG
 have hl:(zs.take k).length=k:=by simp;omega
 rw[List.set_append_right _ _ (by omega),hl,Nat.sub_self]
 obtain⟨m,hm⟩:∃m,n-k=m+1:=⟨n-k-1,by omega⟩
 rw[hm,List.replicate_succ,List.set_cons_zero,show n-(k+1)=m by omega,List.take_add_one,List.append_assoc,List.getElem?_eq_getElem (show k<zs.length by omega)]
 rfl
def mkG (f:Nat→α) (zs:List α) (k:Nat):List α:=(List.range k).map f++zs.drop k
theorem mkG_zero (f:Nat→α) (zs:List α):mkG f zs 0=zs:=by simp[mkG]
theorem mkG_all (f:Nat→α) (zs:List α) (n:Nat) (h:zs.length=n):mkG f zs n=(List.range n).map f:=by simp[mkG,←h]
theorem mkG_len (f:Nat→α) (zs:List α) (k:Nat) (h:k≤zs.length):(mkG f zs k).length=zs.length:=by simp[mkG];omega
theorem mkG_step (f:Nat→α) (zs:List α) (k:Nat) (h:k<zs.length):(mkG f zs k).set k (f k)=mkG f zs (k+1):=by
 unfold mkG
 rw[List.set_append_right _ _ (by simp),List.length_map,List.length_range,Nat.sub_self,List.drop_eq_getElem_cons h,List.set_cons_zero,List.range_succ,List.map_append,List.append_assoc]
 rfl
theorem Odt.storeRow {size:Nat} {v:Value} {fp:List Nat} {g off n cap:Nat} (hv:v= .slice (some ⟨g,off,none⟩) n cap) (hn:fp.Nodup) (us:List Value):∀(w:World) (ds:List Dt) (o:Nat),Odt w (.rows size ds) v fp→(∀r,r<us.length→ ∃u,ds[o+r]?= some (.leaf u))→
 Odt (setRow w g (off+o) us) (.rows size (setDs ds o us)) v fp∧Wr w (setRow w g (off+o) us) fp:=by
 induction us with
 | nil=>intro w ds o h _;exact⟨h,Wr.refl _ _⟩
 | cons u us ih=>
   intro w ds o h hl
   obtain⟨u0,hu0⟩:=hl 0 (by simp)
   obtain⟨g',off',n',cap',e,-,-,-,h2,h3⟩:=h.store hn (j:=o) hu0 u
   rw[hv] at e
   simp only[Value.slice.injEq,Option.some.injEq,Addr.mk.injEq,and_true] at e
   obtain⟨⟨rfl,rfl⟩,rfl,rfl⟩:=e
   obtain⟨k1,k2⟩:=ih _ _ (o+1) h2 (fun r hr=>by
    obtain⟨u1,e1⟩:=hl (r+1) (by simpa using hr)
    refine⟨u1,?_⟩
    rw[List.getElem?_set_ne (by omega),show o+1+r=o+(r+1) by omega,e1])
   exact⟨k1,h3.trans k2⟩
theorem flt_leaf {enc:α→List Value} {m:Nat} (hm:∀z,(enc z).length=m) (zs:List α) {k r:Nat} (hk:k<zs.length) (hr:r<m):∃u,(fltC enc zs)[k*m+r]?= some (.leaf u):=by
 rw[fltC_at hm zs k r hr,List.getElem?_eq_getElem hk]
 have:r<(enc zs[k]).length:=by rw[hm];exact hr
 exact⟨(enc zs[k])[r],by simp[List.getElem?_eq_getElem this]⟩
theorem flt_mark {enc:α→List Value} {m:Nat} {w:World} {fp:List Nat} {a:Option Addr} {n cap k:Nat} {zs:List α} (hm:∀z,(enc z).length=m) (hm0:0<m) (h:Odt w (flt m enc zs) (.slice a n cap) fp) (hn:fp.Nodup) (hk:k<zs.length):
 ∃g off,a=some ⟨g,off,none⟩∧(∀r,r<m→ ∃u0,w.cell? ⟨g,off+k*m+r,none⟩=some u0)∧(∀j,w.frozen? ⟨g,j,none⟩=false)∧
  ∀z,Odt (setRow w g (off+k*m) (enc z)) (flt m enc (zs.set k z)) (.slice a n cap) fp∧Wr w (setRow w g (off+k*m) (enc z)) fp:=by
 obtain⟨u0,hu0⟩:=flt_leaf hm zs hk hm0
 obtain⟨g,off,n',cap',e,-,-,hg,-,-⟩:=Odt.store (show Odt w (.rows m (fltC enc zs)) _ fp from h) hn hu0 undef
 simp only[Value.slice.injEq] at e
 obtain⟨rfl,rfl,rfl⟩:=e
 refine⟨g,off,rfl,fun r hr=> ?_,fun j=> ?_,fun z=> ?_⟩
 · obtain⟨u1,hu1⟩:=flt_leaf hm zs hk hr
   obtain⟨g',off',n',cap',e,hc,-⟩:=Odt.store (show Odt w (.rows m (fltC enc zs)) _ fp from h) hn hu1 undef
   simp only[Value.slice.injEq,Option.some.injEq,Addr.mk.injEq,and_true] at e
   obtain⟨⟨rfl,rfl⟩,rfl,rfl⟩:=e
   rw[←Nat.add_assoc] at hc
   exact⟨u1,hc⟩
 · unfold flt at h
   generalize fltC enc zs=ds at h
   cases h with
   | mk hl hu hf hnc hc hgg hcs ht hd=>exact frozen_of_row _ _ _ _ _ hgg
 · have:=Odt.storeRow rfl hn (enc z) w (fltC enc zs) (k*m) h (fun r hr=>flt_leaf hm zs hk (by rw[hm] at hr;exact hr))
   rw[setDs_flt hm hm0 zs z hk] at this
   exact this
end
def putA (cur:Array Value) (o:Nat):List Value→Array Value
 | []=>cur
 | u::us=>putA (cur.setIfInBounds o u) (o+1) us
theorem blk_there {w:World} {b:Nat} {cur:Array Value} {T:TypeId} (h:w.heap[b]?= some (.cells cur T (0,0))) {o n:Nat} (hn:o+n≤cur.size):w.there b o n:=fun j hj=>by
 refine⟨?_,frozen_of_row _ _ _ _ _ h⟩
 rw[cell_of_row _ _ _ _ _ _ h,Array.getElem?_eq_getElem (by omega)];rfl
theorem blk_put {b:Nat} {T:TypeId} (us:List Value):∀{w:World} {cur:Array Value} (o:Nat),w.heap[b]?= some (.cells cur T (0,0))→(w.setCells b o us).heap[b]?= some (.cells (putA cur o us) T (0,0)):=by
 induction us with
 | nil=>intro w cur o h;exact h
 | cons u us ih=>intro w cur o h;exact ih (o+1) (heap_setCell_same w b o cur T u h)
theorem blk_put_other {b k:Nat} (hk:k≠b) (us:List Value):∀(w:World) (o:Nat),(w.setCells b o us).heap[k]?= w.heap[k]?:=by
 induction us with
 | nil=>intro w o;rfl
 | cons u us ih=>intro w o;exact(ih _ (o+1)).trans (heap_setCell_other w ⟨b,o,none⟩ k u hk)
theorem blk_put_size {b:Nat} (us:List Value):∀(w:World) (o:Nat),(w.setCells b o us).heap.size=w.heap.size:=by
 induction us with
 | nil=>intro w o;rfl
 | cons u us ih=>intro w o;exact(ih _ (o+1)).trans (by simp)
theorem below_put {B b:Nat} {u:World} (hB:B≤b) (us:List Value):∀{w:World} (o:Nat),Below B u w→Below B u (w.setCells b o us):=by
 induction us with
 | nil=>intro w o h;exact h
 | cons x us ih=>intro w o h;exact ih (o+1) (h.setCell (p:=⟨b,o,none⟩) hB _)
structure Stx (w w':World) (b:Nat) (new:Array Value) (T:TypeId):Prop where
 blk:w'.heap[b]?= some (.cells new T (0,0))
 other:∀k,k≠b→w'.heap[k]?= w.heap[k]?
 size:w'.heap.size=w.heap.size
 below:∀(B:Nat) (u:World),B≤b→Below B u w→Below B u w'
theorem Stx.keep {w w':World} {b:Nat} {new:Array Value} {T:TypeId} (h:Stx w w' b new T) {k:Nat} {x:Obj} (hk:k≠b) (hx:w.heap[k]?= some x):w'.heap[k]?= some x:=(h.other k hk).trans hx
theorem Stx.odt {w w':World} {b:Nat} {new:Array Value} {T:TypeId} {d:Dt} {v:Value} {fp:List Nat} (h:Stx w w' b new T) (ho:Odt w d v fp) (hb:b ∉ fp):Odt w' d v fp:=
 ho.kept fun k hk=>h.other k (fun e=>hb (by rw[←e];exact hk))
theorem stx_cell {w:World} {b j:Nat} {cur:Array Value} {T:TypeId} (hg:w.heap[b]?= some (.cells cur T (0,0))) (u:Value):Stx w (w.setCell ⟨b,j,none⟩ u) b (cur.setIfInBounds j u) T:=
 ⟨heap_setCell_same w b j cur T u hg,fun k hk=>heap_setCell_other w ⟨b,j,none⟩ k u hk,by simp,fun B u hB hb=>hb.setCell (p:=⟨b,j,none⟩) hB _⟩
theorem wpList_stx {P:Program} {ops:Array Oper} {rest:List Oper} {op:Oper} {a:Act} {w:World} {Q:Exit→Act→World→Prop} (hgd:op.guard=none) (ty:TypeId) (x y:Operand) (ho:op.op= .store ty x y)
 (b o:Nat) (us:List Value) (hx:a.eval x= .pointer (some ⟨b,o,none⟩)) (hy:a.eval y= .agg us.toArray) {cur:Array Value} {T:TypeId} (hg:w.heap[b]?= some (.cells cur T (0,0))) (hn:o+us.length≤cur.size)
 (hi:(P.info? ty).map (·.size)=some us.length) (h1:∀v∈us,v.oneCell'=true)
 (h:∀w',Stx w w' b (putA cur o us) T→wpList P ops Q rest (a.put op.dst undef) w'):wpList P ops Q (op::rest) a w:=by
 refine wpList_store_mid hgd ty x y ho b o us.toArray hx hy (blk_there hg (by simpa using hn)) (by simpa using hi) (all_oneCell_toArray h1) ?_
 exact h _ ⟨blk_put us o hg,fun k hk=>blk_put_other hk us w o,blk_put_size us w o,fun B u hB hb=>below_put hB us o hb⟩
theorem wpList_st1 {P:Program} {ops:Array Oper} {rest:List Oper} {op:Oper} {a:Act} {w:World} {Q:Exit→Act→World→Prop} (hgd:op.guard=none) (ty:TypeId) (x y:Operand) (ho:op.op= .store ty x y)
 (b o:Nat) (u:Value) (hx:a.eval x= .pointer (some ⟨b,o,none⟩)) (hy:a.eval y=u) {cur:Array Value} {T:TypeId} (hg:w.heap[b]?= some (.cells cur T (0,0))) (hn:o<cur.size)
 (hi:(P.info? ty).map (·.size)=some 1) (h1:u.cells= #[u]∧u.oneCell'=true)
 (h:∀w',Stx w w' b (cur.setIfInBounds o u) T→wpList P ops Q rest (a.put op.dst undef) w'):wpList P ops Q (op::rest) a w:=by
 refine wpList_plain hgd fun _ hK=> ?_
 have hc:=blk_there hg (o:=o) (n:=1) (by omega)
 have hr:=run_storeCells_cells (P:=P) b o [u] 0 w (fun j hj=>by simpa using(hc j (by simpa using hj)).1) (fun j hj=>by simpa using(hc j (by simpa using hj)).2) (fun v hv=>by simp at hv;rw[hv];exact h1.2)
 unfold Oper.wp execOp
 cases hq:P.info? ty with
 | none=>simp[hq] at hi
 | some i=>
   have hs:i.size=1:=by simpa[hq] using hi
   have hst:(storeVar ty ⟨b,o,none⟩ u).run P w= .ok () (w.setCell ⟨b,o,none⟩ u):=by
    simp only[Nat.add_zero] at hr
    rw[show w.setCell ⟨b,o,none⟩ u=w.setCells b o [u] from rfl]
    simp[storeVar,sizeOf,typeInfo,hq,h1.1,hs]
    simpa using hr
   simp only[ho,hx,hy,Instr.storeAt,Instr.sureAddr,Sem.run_bind,Sem.run_pure,Result.andThen_ok,hst]
   exact hK _ _ (h _ (stx_cell hg u))
theorem wpList_ldx {P:Program} {ops:Array Oper} {rest:List Oper} {op:Oper} {a:Act} {w:World} {Q:Exit→Act→World→Prop} (hgd:op.guard=none) (ty:TypeId) (x:Operand) (ho:op.op= .load ty x)
 (b o:Nat) (hx:a.eval x= .pointer (some ⟨b,o,none⟩)) (cs:List Value) {cur:Array Value} {T:TypeId} (hg:w.heap[b]?= some (.cells cur T (0,0))) (hc:((cur.toList.drop o).take cs.length)=cs) (d:TypeDesc)
 (hu:P.underlying ty=some d) (hd:d.isRow=true) (hi:(P.info? ty).map (·.size)=some cs.length)
 (h:wpList P ops Q rest (a.put op.dst (.agg cs.toArray)) w):wpList P ops Q (op::rest) a w:=
 wpList_load_mid hgd ty x ho b o hx cs d (fun _ _ hj=>row_cell hg hc hj rfl) hu hd hi h
abbrev mk (l:List UInt8):ByteArray:=⟨l.toArray⟩
theorem ba_ext {a b:ByteArray} (h:a.data.toList=b.data.toList):a=b:=by
 cases a;cases b;simp only[ByteArray.mk.injEq];exact Array.toList_inj.1 h
theorem data_append (a b:ByteArray):(a++b).data.toList=a.data.toList++b.data.toList:=by simp[ByteArray.data_append]
theorem mk_append (a b:List UInt8):mk a++mk b=mk (a++b):=ba_ext (by rw[data_append])
abbrev digs (n:Nat):List UInt8:=Go.Lib.decDigits n
theorem digs_small {n:Nat} (h:n<10):digs n=[UInt8.ofNat (48+n)]:=by unfold digs;rw[Go.Lib.decDigits,dif_pos h]
theorem digs_big {n:Nat} (h:¬n<10):digs n=digs (n/10)++[UInt8.ofNat (48+n%10)]:=by unfold digs;rw[Go.Lib.decDigits,dif_neg h]
end Go.Proofs.YtofcicomhnkocaaGreat
