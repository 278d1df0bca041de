import Derived.Test.YtofcicomhnkocaaGreatBx01
set_option linter.unusedVariables false
namespace Go.Proofs.YtofcicomhnkocaaGreat
set_option maxHeartbeats 1600000
open Go.RowKit
set_option maxRecDepth 100000
structure Fib where
 a:Int
 b:Int
 l:Int
 r:Int
def nilB:Fib:=⟨0,0,0,0⟩
def fibE (f:Fib):List Value:=[.int .i64 f.a,.int .i64 f.b,.int .i64 f.l,.int .i64 f.r]
def fibV (f:Fib):Value:= .agg #[.int .i64 f.a,.int .i64 f.b,.int .i64 f.l,.int .i64 f.r]
def fibOk (f:Fib) (m:Nat):Bool:=inB f.a 0 ((m:Int)-1)&&inB f.b (f.a+1) ((m:Int)-1)&&inB f.l 1 5000&&inB f.r 0 9
theorem l2Fiber_any (f:Fib) (m:Nat) (w:World) (hm:m≤1000):
 Calls Tryz.prog 170 #[fibV f,.int .i64 (m:Int)] w fun e w'=>e= .returned (.bool (fibOk f m))∧Below w.heap.size w w':=by
 obtain⟨a,b,l,r⟩:=f
 have HB:=ξh ((ξb w.heap.size w).alloc (ξr _) (.cells #[.int .i64 a,.int .i64 b,.int .i64 l,.int .i64 r] 146))
 have HF:=ξh (show fibOk ⟨a,b,l,r⟩ m=(inB a 0 ((m:Int)-1)&&inB b (a+1) ((m:Int)-1)&&inB l 1 5000&&inB r 0 9) from rfl)
 generalize fibOk ⟨a,b,l,r⟩ m=q at *
 unfold fibV
 cases h1:inB a 0 ((m:Int)-1)
 · rw[h1] at HF
   go_enter Tryz.func170,Tryz.ntmps170
   go_wp2_with (go_at_call 77;refine(ξI _ _ _ _).mono ?_;rintro e w' ⟨rfl,rfl⟩)
   go_ret
   exact⟨by rw[HF.out];rfl,HB.out⟩
 rw[h1] at HF
 have hb1:=ξO h1
 cases h2:inB b (a+1) ((m:Int)-1)
 · rw[h2] at HF
   go_enter Tryz.func170,Tryz.ntmps170
   go_wp2_with (go_at_call 77;refine(ξI _ _ _ _).mono ?_;rintro e w' ⟨rfl,rfl⟩)
   go_ret
   exact⟨by rw[HF.out];rfl,HB.out⟩
 rw[h2] at HF
 cases h3:inB l 1 5000
 · rw[h3] at HF
   go_enter Tryz.func170,Tryz.ntmps170
   go_wp2_with (go_at_call 77;refine(ξI _ _ _ _).mono ?_;rintro e w' ⟨rfl,rfl⟩)
   go_ret
   exact⟨by rw[HF.out];rfl,HB.out⟩
 rw[h3] at HF
 go_enter Tryz.func170,Tryz.ntmps170
 go_wp2_with (go_at_call 77;refine(ξI _ _ _ _).mono ?_;rintro e w' ⟨rfl,rfl⟩)
 go_ret
 exact⟨by rw[HF.out];rfl,HB.out⟩
def fibGt (f g:Fib):Bool:=if f.a≠g.a then decide (g.a<f.a) else if f.b≠g.b then decide (g.b<f.b) else if f.l≠g.l then decide (g.l<f.l) else decide (g.r<f.r)
def ξV (f:Fib):Prop:=(-100000≤f.a∧f.a≤100000)∧(-100000≤f.b∧f.b≤100000)∧(-100000≤f.l∧f.l≤100000)∧(-100000≤f.r∧f.r≤100000)
def befF (f g:Fib):Int:=if f.a≠g.a then f.a-g.a else if f.b≠g.b then f.b-g.b else if f.l≠g.l then f.l-g.l else f.r-g.r
theorem befF_gt (f g:Fib):decide (0<befF f g)=fibGt f g:=by
 unfold befF fibGt
 by_cases e1:f.a≠g.a
 · rw[if_pos e1,if_pos e1];congr 1;simp only[eq_iff_iff];omega
 · rw[if_neg e1,if_neg e1]
   by_cases e2:f.b≠g.b
   · rw[if_pos e2,if_pos e2];congr 1;simp only[eq_iff_iff];omega
   · rw[if_neg e2,if_neg e2]
     by_cases e3:f.l≠g.l
     · rw[if_pos e3,if_pos e3];congr 1;simp only[eq_iff_iff];omega
     · rw[if_neg e3,if_neg e3];congr 1;simp only[eq_iff_iff];omega
theorem ξch (f g:Fib) (w:World) (hf:ξV f) (hg:ξV g):
 Calls Tryz.prog 171 #[fibV f,fibV g] w fun e w'=>e= .returned (.int .i64 (befF f g))∧Below w.heap.size w w':=by
 obtain⟨a,b,l,r⟩:=f
 obtain⟨a',b',l',r'⟩:=g
 obtain⟨a1,b1,l1,r1⟩:=hf
 obtain⟨a2,b2,l2,r2⟩:=hg
 simp only at a1 b1 l1 r1 a2 b2 l2 r2
 have hal:=(ξb w.heap.size w).alloc (ξr _) (.cells #[.int .i64 a,.int .i64 b,.int .i64 l,.int .i64 r] 146)
 have HB:=ξh (hal.alloc hal.size (.cells #[.int .i64 a',.int .i64 b',.int .i64 l',.int .i64 r'] 146))
 have HD:=ξh (show∀d:Int,(if a≠a' then d=a-a' else if b≠b' then d=b-b' else if l≠l' then d=l-l' else d=r-r')→befF ⟨a,b,l,r⟩ ⟨a',b',l',r'⟩=d from by
  intro d h
  unfold befF
  simp only
  split at h
  · rename_i e
    rw[if_pos e];exact h.symm
  · rename_i e
    rw[if_neg e]
    split at h
    · rename_i e2
      rw[if_pos e2];exact h.symm
    · rename_i e2
      rw[if_neg e2]
      split at h
      · rename_i e3
        rw[if_pos e3];exact h.symm
      · rename_i e3
        rw[if_neg e3];exact h.symm)
 generalize befF ⟨a,b,l,r⟩ ⟨a',b',l',r'⟩=q at *
 unfold fibV
 clear hal
 by_cases e1:a=a'
 case neg=>
  have e1b:(a != a')=true:=by rw[bne_iff_ne];exact e1
  have HX:=ξh (HD.out (a-a') (by rw[if_pos e1]))
  clear e1
  go_enter Tryz.func171,Tryz.ntmps171
  go_wp2
  go_ret
  exact⟨by rw[HX.out];rfl,HB.out⟩
 have e1b:(a != a')=false:=by simp[e1]
 by_cases e2:b=b'
 case neg=>
  have e2b:(b != b')=true:=by rw[bne_iff_ne];exact e2
  have HX:=ξh (HD.out (b-b') (by rw[if_neg (by simpa using e1),if_pos e2]))
  clear e1 e2
  go_enter Tryz.func171,Tryz.ntmps171
  go_wp2
  go_ret
  exact⟨by rw[HX.out];rfl,HB.out⟩
 have e2b:(b != b')=false:=by simp[e2]
 by_cases e3:l=l'
 case neg=>
  have e3b:(l != l')=true:=by rw[bne_iff_ne];exact e3
  have HX:=ξh (HD.out (l-l') (by rw[if_neg (by simpa using e1),if_neg (by simpa using e2),if_pos e3]))
  clear e1 e2 e3
  go_enter Tryz.func171,Tryz.ntmps171
  go_wp2
  go_ret
  exact⟨by rw[HX.out];rfl,HB.out⟩
 have e3b:(l != l')=false:=by simp[e3]
 have HX:=ξh (HD.out (r-r') (by rw[if_neg (by simpa using e1),if_neg (by simpa using e2),if_neg (by simpa using e3)]))
 clear e1 e2 e3
 go_enter Tryz.func171,Tryz.ntmps171
 go_wp2
 go_ret
 exact⟨by rw[HX.out];rfl,HB.out⟩
def cmpI (a b:Int):Int:=if a<b then -1 else if b<a then 1 else 0
theorem ξbZ (a:Int) (w:World):Calls Tryz.prog 212 #[.int .i64 a] w fun e w'=>e= .returned (.bool false)∧w=w':=by
 have h:(a != a)=false:=by simp
 go_enter Tryz.func212,Tryz.ntmps212
 go_wp2
 go_ret
 exact⟨rfl,rfl⟩
theorem ξak (a b:Int) (w:World):Calls Tryz.prog 174 #[.int .i64 a,.int .i64 b] w fun e w'=>e= .returned (.int .i64 (cmpI a b))∧w=w':=by
 by_cases h1:a<b
 · have h1d:decide (a<b)=true:=ξt h1
   have HR:=ξh (show cmpI a b= -1 by unfold cmpI;rw[if_pos h1])
   go_enter Tryz.func174,Tryz.ntmps174
   go_wp2_with (go_at_call 212;refine(ξbZ _ _).mono ?_;rintro e w' ⟨rfl,rfl⟩)
   go_ret
   exact⟨by rw[HR.out];rfl,rfl⟩
 have h1d:decide (a<b)=false:=ξf h1
 by_cases h2:b<a
 · have h2d:decide (b<a)=true:=ξt h2
   have HR:=ξh (show cmpI a b=1 by unfold cmpI;rw[if_neg h1,if_pos h2])
   go_enter Tryz.func174,Tryz.ntmps174
   go_wp2_with (go_at_call 212;refine(ξbZ _ _).mono ?_;rintro e w' ⟨rfl,rfl⟩)
   go_ret
   exact⟨by rw[HR.out];rfl,rfl⟩
 · have h2d:decide (b<a)=false:=ξf h2
   have HR:=ξh (show cmpI a b=0 by unfold cmpI;rw[if_neg h1,if_neg h2])
   go_enter Tryz.func174,Tryz.ntmps174
   go_wp2_with (go_at_call 212;refine(ξbZ _ _).mono ?_;rintro e w' ⟨rfl,rfl⟩)
   go_ret
   exact⟨by rw[HR.out];rfl,rfl⟩
def orI:List Int→Int
 | []=>0
 | x::xs=>if x=0 then orI xs else x
theorem orI_none:∀{xs:List Int},xs.all (fun x=>x==0)=true→orI xs=0
 | [],_=>rfl
 | x::xs,h=>by
   simp only[List.all_cons,Bool.and_eq_true,beq_iff_eq] at h
   rw[orI,if_pos h.1];exact orI_none h.2
theorem orI_some:∀{xs:List Int} {k:Nat},k<xs.length→(xs.take k).all (fun x=>x==0)=true→xs[k]?.getD 0≠0→orI xs=xs[k]?.getD 0
 | [],k,hk,_,_=>by simp at hk
 | x::xs,0,_,_,e=>by
   have e:x≠0:=by simpa using e
   rw[orI,if_neg e];simp
 | x::xs,k+1,hk,h,e=>by
   simp only[List.take_succ_cons,List.all_cons,Bool.and_eq_true,beq_iff_eq] at h
   rw[orI,if_pos h.1,List.getElem?_cons_succ]
   exact orI_some (by simpa using hk) h.2 (by simpa using e)
theorem all0_more {xs:List Int} {k:Nat} (hk:k<xs.length) (h:(xs.take k).all (fun x=>x==0)=true) (e:xs[k]?.getD 0=0):(xs.take (k+1)).all (fun x=>x==0)=true:=by
 rw[ξg hk] at e
 rw[List.take_add_one,List.all_append,h,ξg hk]
 simpa using e
theorem or_any (v:Value) (xs:List Int) (w:World) (h:Rd w v xs):
 Calls Tryz.prog 173 #[v] w fun e w'=>e= .returned (.int .i64 (orI xs))∧w=w':=by
 obtain⟨a,cap,n,HN,rfl,_,hnl,ha⟩:=h.opn
 have HA:=ξh ha
 have HO:=ξh (@orI_none xs)
 have HS:=ξh (fun k (hk:k<xs.length)=>@orI_some xs k hk)
 have HM:=ξh (fun k (hk:k<xs.length)=>@all0_more xs k hk)
 clear ha h
 generalize orI xs=r at *
 go_enter Tryz.func173,Tryz.ntmps173
 go_wp2
 go_loop [5,8] (fun _ i=>∃k:Nat,k≤n∧i= .int .i64 k∧Hid ((xs.take k).all (fun x=>x==0)=true)) (fun _ i=>n-(intOf i).toNat)
 case atStart=>exact⟨0,ξu _,rfl,by simp[Hid]⟩
 case round=>
  obtain⟨k,hk,rfl,HT⟩:=hrel
  by_cases hlt:k<n
  · have hltI:(k:Int)<(n:Int):=by omega
    have hkx:k<xs.length:=by rw[HN.out];exact hlt
    obtain⟨b,off,rfl,hbs,hcs⟩:=HA.out (by omega)
    have hc0:=hcs k hlt
    have HS1:=ξh (HS.out k hkx HT.out)
    have HM1:=ξh (HM.out k hkx HT.out)
    clear hcs hkx
    generalize xs[k]?.getD 0=x at *
    by_cases he:x=0
    · have HE:=ξh (HM1.out he)
      have heb:(x != 0)=false:=by simp[he]
      clear he
      go_wp2
      go_round
      case rel=>exact⟨k+1,by omega,by go_num,HE.out⟩
      case measure=>simp[intOf];omega
    · have HE:=ξh (HS1.out he)
      have heb:(x != 0)=true:=by rw[bne_iff_ne];exact he
      clear he
      go_wp2
      go_ret
      exact⟨by rw[HE.out];rfl,rfl⟩
  · obtain rfl:k=n:=by omega
    have hall:=HT.out
    rw[←HN.out,List.take_length] at hall
    have HE:=ξh (HO.out hall)
    clear hall
    go_wp2
    go_ret
    exact⟨by rw[HE.out];rfl,rfl⟩
theorem orI_fib (f g:Fib):decide (0<orI [cmpI f.a g.a,cmpI f.b g.b,cmpI f.l g.l,cmpI f.r g.r])=fibGt f g:=by
 have hc:∀a b:Int,(a=b∧cmpI a b=0)∨(a≠b∧cmpI a b≠0∧decide (0<cmpI a b)=decide (b<a)):=by
  intro a b
  unfold cmpI
  by_cases h1:a<b
  · rw[if_pos h1];right;refine⟨by omega,by omega,?_⟩
    rw[ξf (show¬(0:Int) < -1 by omega),ξf (show¬b<a by omega)]
  · rw[if_neg h1]
    by_cases h2:b<a
    · rw[if_pos h2];right;refine⟨by omega,by omega,?_⟩
      rw[ξt h2];rfl
    · rw[if_neg h2];left;exact⟨by omega,rfl⟩
 unfold fibGt
 rcases hc f.a g.a with ⟨e1,z1⟩ | ⟨e1,z1,d1⟩
 · rw[if_neg (by simpa using e1),orI,if_pos z1]
   rcases hc f.b g.b with ⟨e2,z2⟩ | ⟨e2,z2,d2⟩
   · rw[if_neg (by simpa using e2),orI,if_pos z2]
     rcases hc f.l g.l with ⟨e3,z3⟩ | ⟨e3,z3,d3⟩
     · rw[if_neg (by simpa using e3),orI,if_pos z3]
       rcases hc f.r g.r with ⟨e4,z4⟩ | ⟨e4,z4,d4⟩
       · rw[orI,if_pos z4,orI,e4,ξf (by omega),ξf (by omega)]
       · rw[orI,if_neg z4,d4]
     · rw[if_pos e3,orI,if_neg z3,d3]
   · rw[if_pos e2,orI,if_neg z2,d2]
 · rw[if_pos e1,orI,if_neg z1,d1]
def cmpF (f g:Fib):Int:=orI [cmpI f.a g.a,cmpI f.b g.b,cmpI f.l g.l,cmpI f.r g.r]
theorem cmpF_gt (f g:Fib):decide (0<cmpF f g)=fibGt f g:=orI_fib f g
theorem rd_alloc (w:World) (T:TypeId) (xs:List Int) (h:xs.length≤maxLen):Rd (w.alloc (.cells (ints xs).toArray T)) (.slice (some ⟨w.heap.size,0,none⟩) xs.length xs.length) xs:=by
 refine .inr ⟨w.heap.size,0,xs.length,rfl,ξr _,h,by simp,fun j hj=> ?_⟩
 have hn:=ξn w (.cells (ints xs).toArray T)
 rw[cell_of_row _ _ _ _ _ _ hn]
 simp[hj]
theorem blkc {w:World} {b j:Nat} {us:Array Value} {T:TypeId} {u:Value} (h:w.heap[b]?= some (.cells us T (0,0))) (hj:us[j]?= some u):w.cell? ⟨b,j,none⟩=some u:=by
 rw[cell_of_row _ _ _ _ _ _ h,hj]
theorem ξcm (f g:Fib) (w:World):
 Calls Tryz.prog 130 #[fibV f,fibV g] w fun e w'=>e= .returned (.int .i64 (cmpF f g))∧Below w.heap.size w w':=by
 have HO:=ξh (show cmpF f g=orI [cmpI f.a g.a,cmpI f.b g.b,cmpI f.l g.l,cmpI f.r g.r] from rfl)
 generalize cmpF f g=q at *
 obtain⟨a,b,l,r⟩:=f
 obtain⟨a',b',l',r'⟩:=g
 unfold fibV
 go_enter Tryz.func130,Tryz.ntmps130
 go_wp2
 have hA:=ξn w (.cells #[.int .i64 a,.int .i64 b,.int .i64 l,.int .i64 r] 146)
 have hA2:=(heap_alloc_old _ (.cells #[.int .i64 a',.int .i64 b',.int .i64 l',.int .i64 r'] 146) (ξa hA).1).trans hA
 have hB2:=ξn (w.alloc (.cells #[.int .i64 a,.int .i64 b,.int .i64 l,.int .i64 r] 146)) (.cells #[.int .i64 a',.int .i64 b',.int .i64 l',.int .i64 r'] 146)
 rw[show(w.alloc (.cells #[.int .i64 a,.int .i64 b,.int .i64 l,.int .i64 r] 146)).heap.size=w.heap.size+1 by simp] at hB2
 have hal:=(ξb w.heap.size w).alloc (ξr _) (.cells #[.int .i64 a,.int .i64 b,.int .i64 l,.int .i64 r] 146)
 have HB:=ξh (hal.alloc hal.size (.cells #[.int .i64 a',.int .i64 b',.int .i64 l',.int .i64 r'] 146))
 clear hA hal
 generalize (w.alloc (.cells #[.int .i64 a,.int .i64 b,.int .i64 l,.int .i64 r] 146)).alloc (.cells #[.int .i64 a',.int .i64 b',.int .i64 l',.int .i64 r'] 146)=W at *
 have c0:=blkc hA2 (j:=0) rfl
 have c1:=blkc hA2 (j:=1) rfl
 have c2:=blkc hA2 (j:=2) rfl
 have c3:=blkc hA2 (j:=3) rfl
 have c4:=blkc hB2 (j:=0) rfl
 have c5:=blkc hB2 (j:=1) rfl
 have c6:=blkc hB2 (j:=2) rfl
 have c7:=blkc hB2 (j:=3) rfl
 clear hA2 hB2
 go_still_tail 20,(by kernel_rfl)
 still_call ((ξak _ _ _).mono fun _ _ h=>⟨h.1,h.2.symm⟩)
 repeat still_step
 still_call ((ξak _ _ _).mono fun _ _ h=>⟨h.1,h.2.symm⟩)
 repeat still_step
 still_call ((ξak _ _ _).mono fun _ _ h=>⟨h.1,h.2.symm⟩)
 repeat still_step
 still_call ((ξak _ _ _).mono fun _ _ h=>⟨h.1,h.2.symm⟩)
 repeat still_step
 refine wpStill_nil ?_
 go_wp2_with fail
 refine(or_any _ [cmpI a a',cmpI b b',cmpI l l',cmpI r r'] _ (show Rd (W.alloc (.cells #[.int .i64 (cmpI a a'),.int .i64 (cmpI b b'),.int .i64 (cmpI l l'),.int .i64 (cmpI r r')] 3)).drew (.slice (some ⟨W.heap.size,0,none⟩) 4 4) [cmpI a a',cmpI b b',cmpI l l',cmpI r r'] from(rd_alloc W 3 [cmpI a a',cmpI b b',cmpI l l',cmpI r r'] (by show 4≤maxLen;decide)).drew)).mono ?_
 rintro e w' ⟨rfl,rfl⟩
 go_wp2
 go_ret
 exact⟨by rw[HO.out];rfl,(HB.alloc HB.size _).drew⟩
open Go.RowKit Go.Sort
/-! ### Boxes, regions -/
theorem ξD (w:World) (us:Array Value) (T:TypeId):Below w.heap.size w (w.alloc (.cells us T))∧(∀j u,us[j]?= some u→(w.alloc (.cells us T)).cell? ⟨w.heap.size,j,none⟩=some u)∧w.heap.size<(w.alloc (.cells us T)).heap.size∧(∀j,(w.alloc (.cells us T)).frozen? ⟨w.heap.size,j,none⟩=false):=
 ⟨(ξb w.heap.size w).alloc (ξr _) _,fun j u h=>blkc (ξn w (.cells us T)) h,by simp,fun j=>ξz _ _ _ _ _ (ξn w (.cells us T))⟩
theorem bcell {W w1:World} (hb:Below W.heap.size W w1):(∀b o,b<W.heap.size→w1.cell? ⟨b,o,none⟩=W.cell? ⟨b,o,none⟩)∧(∀b o,b<W.heap.size→w1.frozen? ⟨b,o,none⟩=W.frozen? ⟨b,o,none⟩):=
 ⟨fun b o h=>hb.cell (p:=⟨b,o,none⟩) h,fun b o h=>hb.frozen (p:=⟨b,o,none⟩) h⟩
theorem rg {w:World} {a:Addr} {v:Value} (h:w.cell? a=some v):∀d os,(grow (redrawn w d) os).cell? a=some v:=fun d os=>cell_regrown h d os
theorem ξK {P:Program} {f:FuncId} {args:Array Value} {w:World} {d:Nat} {os:Array Obj} {v:Value}
 (h:Calls P f args (grow (redrawn w d) os) fun e w'=>e= .returned v∧grow (redrawn w d) os=w'):Calls P f args (grow (redrawn w d) os) fun e w''=>e= .returned v∧ ∃p:Regrown,w''=grow (redrawn w p.d) p.os:=
 h.mono fun _ _ ⟨he,hb⟩=>⟨he,⟨⟨d,os⟩,hb.symm⟩⟩
theorem Rdt.rg {w:World} {dt:Dt} {v:Value} (h:Rdt w dt v) (d:Nat) (os:Array Obj):Rdt (grow (redrawn w d) os) dt v:=h.behind (ξc w d os)
/-! ### Ranges -/
theorem rng_no {m i:Nat} {P:Nat→Bool} (hi:i<m) (h:P i=false):(List.range m).all P=false:=by
 rw[List.all_eq_false];exact⟨i,List.mem_range.2 hi,by simp[h]⟩
theorem rng_yes {m:Nat} {P:Nat→Bool} (h:∀i,i<m→P i=true):(List.range m).all P=true:=by
 rw[List.all_eq_true];exact fun i hi=>h i (List.mem_range.1 hi)
theorem ξaS {k:Nat} {P:Nat→Bool} (h:∀i,i<k→P i=true) (hk:P k=true):∀i,i<k+1→P i=true:=fun i hi=>by
 by_cases e:i=k
 · rw[e];exact hk
 · exact h i (by omega)
/-! ### Networks -/
structure Net where
 ns:List ByteArray
 fs:List Fib
abbrev nmA (n:Net) (i:Nat):ByteArray:=n.ns[i]?.getD nilS
abbrev fbA (n:Net) (i:Nat):Fib:=n.fs[i]?.getD nilB
def nmOk (n:Net) (i:Nat):Bool:=ξan (nmA n i)&&decide (plc n.ns (nmA n i)=(i:Int))
def fbOk (n:Net) (i:Nat):Bool:=fibOk (fbA n i) n.ns.length && !(decide (0<i)&&fibGt (fbA n (i-1)) (fbA n i))
def ξL (n:Net):Bool:=decide (2≤n.ns.length∧n.ns.length≤8∧n.fs.length≤14)&&((List.range n.ns.length).all (nmOk n)&&(List.range n.fs.length).all (fbOk n))
theorem netOk_nm {n:Net} {i:Nat} (hi:i<n.ns.length) (h:nmOk n i=false):ξL n=false:=by
 unfold ξL;rw[rng_no hi h];simp
theorem netOk_fb {n:Net} {i:Nat} (hi:i<n.fs.length) (h:fbOk n i=false):ξL n=false:=by
 unfold ξL;rw[rng_no hi h];simp
theorem netOk_sz {n:Net} (h:¬(2≤n.ns.length∧n.ns.length≤8∧n.fs.length≤14)):ξL n=false:=by
 unfold ξL;rw[ξf h];simp
theorem netOk_all {n:Net} (h1:∀i,i<n.ns.length→nmOk n i=true) (h2:∀i,i<n.fs.length→fbOk n i=true):ξL n=decide (2≤n.ns.length∧n.ns.length≤8∧n.fs.length≤14):=by
 unfold ξL;rw[rng_yes h1,rng_yes h2];simp
theorem ξM {n:Net} (h:ξL n=true):2≤n.ns.length∧n.ns.length≤8∧n.fs.length≤14∧(∀i,i<n.ns.length→nmOk n i=true)∧(∀i,i<n.fs.length→fbOk n i=true):=by
 unfold ξL at h
 simp only[Bool.and_eq_true,decide_eq_true_eq,List.all_eq_true] at h
 obtain⟨⟨a,b,c⟩,d,e⟩:=h
 exact⟨a,b,c,fun i hi=>d i (List.mem_range.2 hi),fun i hi=>e i (List.mem_range.2 hi)⟩
theorem ξaM {f:Fib} {m:Nat} (h:fibOk f m=true):0≤f.a∧f.a<f.b∧f.b<m∧1≤f.l∧f.l≤5000∧0≤f.r∧f.r≤9:=by
 unfold fibOk at h
 simp only[Bool.and_eq_true] at h
 obtain⟨⟨⟨h1,h2⟩,h3⟩,h4⟩:=h
 have:=ξO h1;have:=ξO h2;have:=ξO h3;have:=ξO h4
 omega
theorem ξcr {f:Fib} {m:Nat} (h:fibOk f m=true) (hm:m≤1000):ξV f:=by
 have:=ξaM h
 unfold ξV
 omega
theorem plc_pre {ns:List ByteArray} {k:Nat} (hk:k<ns.length):decide (0≤plc (ns.take k) (ns[k]?.getD nilS))= !decide (plc ns (ns[k]?.getD nilS)=(k:Int)):=by
 generalize hx:ns[k]?.getD nilS=x
 cases h:(ns.take k).any (fun s=>s.toList==x.toList)
 · rw[plc_none h,plc_some hk h (by rw[hx];simp)];simp
 · have h1:0≤plc (ns.take k) x∧plc (ns.take k) x<k∧plc ns x=plc (ns.take k) x:=by
    unfold plc
    cases hf:(ns.take k).findIdx? (fun s=>s.toList==x.toList) with
    | none=>
      rw[List.findIdx?_eq_none_iff] at hf
      obtain⟨s,hs,e⟩:=List.any_eq_true.1 h
      rw[hf s hs] at e;cases e
    | some i=>
      obtain⟨hi,e1,e2⟩:=List.findIdx?_eq_some_iff_getElem.1 hf
      have hi':i<k:=by simp at hi;omega
      have hfull:ns.findIdx? (fun s=>s.toList==x.toList)=some i:=List.findIdx?_eq_some_iff_getElem.2 ⟨by omega,by simpa using e1,fun j hj=>by have:=e2 j hj;simpa using this⟩
      rw[hfull]
      simp;omega
   rw[ξt h1.1,h1.2.2,ξf (by omega)];rfl
def NetR (w:World) (v:Value) (n:Net):Prop:=∃u1 u2,v= .agg #[u1,u2]∧Rdt w (flt 1 strE n.ns) u1∧Rdt w (flt 4 fibE n.fs) u2∧ ∀i:Nat,(nmA n i).size≤1048576
theorem NetR.behind {w w':World} {v:Value} {n:Net} (h:NetR w v n) (hb:Below w.heap.size w w'):NetR w' v n:=by
 obtain⟨u1,u2,e,h1,h2,h3⟩:=h;exact⟨u1,u2,e,h1.behind hb,h2.behind hb,h3⟩
theorem flt_take {α:Type} {enc:α→List Value} {m:Nat} {w:World} {a:Option Addr} {n cap k:Nat} {zs:List α} (hm:∀z,(enc z).length=m) (hm0:0<m) (h:Rdt w (flt m enc zs) (.slice a n cap)) (hk:k≤n):Rdt w (flt m enc (zs.take k)) (.slice a k cap):=by
 unfold flt at h ⊢
 have hlen:=ξab hm zs
 have hlk:=ξab hm (zs.take k)
 have hat:∀j,j<k*m→(fltC enc (zs.take k))[j]?= (fltC enc zs)[j]?:=fun j hj=>by
  obtain⟨i,r,hr,rfl⟩:∃i r,r<m∧j=i*m+r:=⟨j/m,j%m,Nat.mod_lt _ hm0,by rw[Nat.mul_comm];exact(Nat.div_add_mod j m).symm⟩
  have hi:i<k:=by
   by_cases e:i<k
   · exact e
   · have:=Nat.mul_le_mul_right m (Nat.le_of_not_lt e);omega
  rw[ξaR hm _ i r hr,ξaR hm _ i r hr,List.getElem?_take,if_pos hi]
 generalize fltC enc zs=ds at *
 generalize fltC enc (zs.take k)=ds' at *
 cases h with
 | nil size=>
   obtain rfl:k=0:=by omega
   have:ds'=[]:=List.eq_nil_of_length_eq_zero (by simpa using hlk)
   rw[this];exact .nil m
 | @mk size n b off cap ds us hl hu hn hc hb hcell hd=>
   have hzl:zs.length=n:=Nat.eq_of_mul_eq_mul_right hm0 (by omega)
   rw[List.length_take,hzl,Nat.min_eq_left hk] at hlk
   have hkm:=Nat.mul_le_mul_right m hk
   refine .mk (us:=us.take (k*m)) hlk (by rw[List.length_take,hlk];omega) (by omega) hc hb (fun j u hj=> ?_) (fun j d u e1 e2=> ?_)
   · rw[List.getElem?_take] at hj
     split at hj
     · exact hcell j u hj
     · cases hj
   · rw[List.getElem?_take] at e2
     split at e2
     · rename_i hjk
       rw[hat j hjk] at e1
       exact hd j d u e1 e2
     · cases e2
theorem Rdt.slice' {α:Type} {enc:α→List Value} {m:Nat} {zs:List α} {w:World} {v:Value} (h:Rdt w (flt m enc zs) v):∃a n cap,v= .slice a n cap:=by
 obtain⟨a,n,cap,e,_⟩:=Rdt.opn (show Rdt w (.rows m (fltC enc zs)) v from h);exact⟨a,n,cap,e⟩
section
variable {H : Type} {enc : TypeId × Value → H} {P : Program} {w : World}
theorem flat_at {α:Type} {F:α→List Dt} {k:Nat} (hF:∀a,(F a).length=k):∀(xs:List α) (i r:Nat),r<k→(xs.flatMap F)[i*k+r]?= (xs[i]?).bind fun a=>(F a)[r]?
 | [],i,r,_=>by simp
 | a::xs,0,r,h=>by
   rw[List.flatMap_cons,List.getElem?_append_left (by rw[hF];omega)]
   simp
 | a::xs,i+1,r,h=>by
   rw[List.flatMap_cons,List.getElem?_append_right (by rw[hF,Nat.add_mul];omega),hF,show(i+1)*k+r-k=i*k+r by rw[Nat.add_mul];omega,flat_at hF xs i r h]
   simp
theorem flat_length {α:Type} {F:α→List Dt} {k:Nat} (hF:∀a,(F a).length=k) (xs:List α):(xs.flatMap F).length=xs.length*k:=by
 induction xs with
 | nil=>simp
 | cons a xs ih=>rw[List.flatMap_cons,ξk,ih,hF,List.length_cons,Nat.add_mul];omega
end
section
variable {α : Type}
def rws (m:Nat) (en:α→List Dt) (zs:List α):Dt:= .rows m (zs.flatMap en)
theorem rws_len {en:α→List Dt} {m:Nat} (hm:∀z,(en z).length=m) (zs:List α):(zs.flatMap en).length=zs.length*m:=flat_length hm zs
theorem rws_at {en:α→List Dt} {m:Nat} (hm:∀z,(en z).length=m) (nil:α) (zs:List α) {i r:Nat} (hi:i<zs.length) (hr:r<m):(zs.flatMap en)[i*m+r]?= (en (zs[i]?.getD nil))[r]?:=by
 rw[flat_at hm zs i r hr,ξg hi];rfl
theorem rws_opn {en:α→List Dt} {m:Nat} {w:World} {v:Value} {zs:List α} (hm:∀z,(en z).length=m) (hm0:0<m) (nil:α) (h:Rdt w (rws m en zs) v):
 ∃a n cap,v= .slice a n cap∧Hid (zs.length=n)∧n≤cap∧n≤9223372036854775807∧
 (0<n→ ∃b off,a=some ⟨b,off,none⟩∧b<w.heap.size∧ ∀i,i<n→ ∀r d,(en (zs[i]?.getD nil))[r]?= some d→ ∃u,w.cell? ⟨b,off+i*m+r,none⟩=some u∧Rdt w d u):=by
 obtain⟨a,n,cap,hv,HN,h1,h2,h3⟩:=h.opn
 have hn:zs.length=n:=by
  have:=HN.out
  rw[rws_len hm] at this
  exact Nat.eq_of_mul_eq_mul_right hm0 this
 refine⟨a,n,cap,hv,hn,h1,h2,fun h0=> ?_⟩
 obtain⟨b,off,ea,hb,hc⟩:=h3 h0
 refine⟨b,off,ea,hb,fun i hi r d hd=> ?_⟩
 have hr:r<m:=by rw[←hm (zs[i]?.getD nil)];exact(ξl hd).1
 obtain⟨u,k1,k2⟩:=hc (i*m+r) d (by rw[rws_at hm nil zs (by omega) hr];exact hd)
 exact⟨u,by rw[Nat.add_assoc];exact k1,k2⟩
end
/-! ### Routes -/
structure Rou where
 st:Int
 fb:List Int
def othE (f:Fib) (node:Int):Int:=if node=f.a then f.b else if node=f.b then f.a else -1
def wlk (n:Net):List Int→Int→List Int→Option (List Int)
 | out,_,[]=>some out
 | out,t,i::is=>if inB i 0 ((n.fs.length:Int)-1) then(if othE (fbA n i.toNat) t<0∨othE (fbA n i.toNat) t∈out then none else wlk n (out++[othE (fbA n i.toNat) t]) (othE (fbA n i.toNat) t) is) else none
def rouN (n:Net) (r:Rou):Option (List Int):=if inB r.st 0 ((n.ns.length:Int)-1) && !r.fb.isEmpty then wlk n [r.st] r.st r.fb else none
def rouOk (n:Net) (r:Rou):Bool:=(rouN n r).isSome
/-! ### Blocks -/
def ξac (f c:Int):Bool:=decide (0≤f)&&(inB c 1 24&&decide (f≤24-c))
theorem ξb4 {f c:Int} (h:ξac f c=true):0≤f∧1≤c∧f+c≤24:=by
 unfold ξac at h
 simp only[Bool.and_eq_true,decide_eq_true_eq] at h
 have:=ξO h.2.1
 omega
def mskN (f c:Nat):Nat:=(2 ^ c-1)*2 ^ f
def msk (f c:Int):Int:=(mskN f.toNat c.toNat:Int)
/-! ### Lights -/
structure Lgt where
 id:Int
 st:Int
 fb:List Int
 fi:Int
 ct:Int
def nilL:Lgt:=⟨0,0,[],0,0⟩
def lgtD (x:Lgt):List Dt:=[.leaf (.int .i64 x.id),.leaf (.int .i64 x.st),inD x.fb,.leaf (.int .i64 x.fi),.leaf (.int .i64 x.ct)]
def ξah (n:Net) (x:Lgt):Bool:=rouOk n ⟨x.st,x.fb⟩&&inB x.id 1 999&&ξac x.fi x.ct
def ξa9 (xs ys:List Int):Bool:=xs.any fun x=>ys.contains x
def hitB (x y:Lgt):Bool:=decide (x.fi<y.fi+y.ct∧y.fi<x.fi+x.ct)
def ξY (x y:Lgt):Bool:=hitB x y&&ξa9 x.fb y.fb
/-! ### Plans -/
structure Pln where
 n:Net
 ls:List Lgt
abbrev lgA (p:Pln) (i:Nat):Lgt:=p.ls[i]?.getD nilL
def PlnR (w:World) (v:Value) (p:Pln):Prop:=∃u1 u2 u3,v= .agg #[u1,u2,u3]∧Rdt w (flt 1 strE p.n.ns) u1∧Rdt w (flt 4 fibE p.n.fs) u2∧Rdt w (rws 5 lgtD p.ls) u3∧ ∀i:Nat,(nmA p.n i).size≤1048576
theorem PlnR.behind {w w':World} {v:Value} {p:Pln} (h:PlnR w v p) (hb:Below w.heap.size w w'):PlnR w' v p:=by
 obtain⟨u1,u2,u3,e,h1,h2,h3,h4⟩:=h;exact⟨u1,u2,u3,e,h1.behind hb,h2.behind hb,h3.behind hb,h4⟩
theorem mskN_bit (f c i:Nat):(mskN f c).testBit i=(decide (f≤i)&&decide (i<f+c)):=by
 unfold mskN
 rw[Nat.testBit_mul_two_pow,Nat.testBit_two_pow_sub_one]
 by_cases h:f≤i
 · simp only[h,decide_true,Bool.true_and]
   rw[decide_eq_decide];omega
 · simp[h]
theorem mskN_meet (f c g d:Nat) (hc:0<c) (hd:0<d):(mskN f c &&& mskN g d=0)↔ ¬(f<g+d∧g<f+c):=by
 constructor
 · intro h ⟨h1,h2⟩
   have:=congrArg (fun x=>x.testBit (max f g)) h
   simp only[Nat.testBit_and,mskN_bit,Nat.zero_testBit,Bool.and_eq_false_iff,decide_eq_false_iff_not] at this
   omega
 · intro h
   apply Nat.eq_of_testBit_eq
   intro i
   simp only[Nat.testBit_and,mskN_bit,Nat.zero_testBit,Bool.and_eq_false_iff,decide_eq_false_iff_not]
   omega
theorem ξbv (f c:Nat) (h:f+c≤24):mskN f c<16777216:=by
 unfold mskN
 have h1:2 ^ c*2 ^ f≤2 ^ 24:=by rw[←Nat.pow_add];exact Nat.pow_le_pow_right (by omega) (by omega)
 have h2:(2 ^ c-1)*2 ^ f+2 ^ f=2 ^ c*2 ^ f:=by
  have:0<2 ^ c:=Nat.two_pow_pos c
  rw[Nat.sub_mul,Nat.one_mul]
  exact Nat.sub_add_cancel (Nat.le_mul_of_pos_left _ this)
 have h3:0<2 ^ f:=Nat.two_pow_pos f
 omega
theorem msk_val {f c:Nat} (h:f+c≤24):wrap64 (wrap64 (wrap64 ((2:Int) ^ c)-1)*(2:Int) ^ f)=(mskN f c:Int):=by
 have hm:=ξbv f c h
 have hc:2 ^ c≤2 ^ 24:=Nat.pow_le_pow_right (by omega) (by omega)
 have hc0:0<2 ^ c:=Nat.two_pow_pos c
 have e1:(2:Int) ^ c=((2 ^ c:Nat):Int):=by simp
 have e2:(2:Int) ^ f=((2 ^ f:Nat):Int):=by simp
 rw[e1,e2]
 have w1:wrap64 ((2 ^ c:Nat):Int)=((2 ^ c:Nat):Int):=ξw _ (by omega)
 have e3:(((2 ^ c:Nat):Int)-1)=((2 ^ c-1:Nat):Int):=by omega
 have w2:wrap64 ((2 ^ c-1:Nat):Int)=((2 ^ c-1:Nat):Int):=ξw _ (by omega)
 rw[w1,e3,w2,←Int.natCast_mul]
 show wrap64 ((mskN f c:Nat):Int)=_
 exact ξw _ (by omega)
theorem ξbn (f c:Nat) (w:World) (h:f+c≤24):
 Calls Tryz.prog 142 #[.agg #[.int .i64 f,.int .i64 c]] w fun e w'=>e= .returned (.int .i64 (mskN f c))∧Below w.heap.size w w':=by
 obtain⟨bx,bc,-,-⟩:=ξD w #[.int .i64 f,.int .i64 c] 84
 have q0:=bc 0 _ rfl
 have q1:=bc 1 _ rfl
 have HBX:=ξh bx
 have HVV:=ξh (msk_val h)
 clear bc bx
 go_enter Tryz.func142,Tryz.ntmps142
 go_wp2
 go_quiet (fail)
 go_wp2
 go_ret
 exact⟨by rw[←HVV.out];rfl,⟨HBX.os,HBX.tape,HBX.output,HBX.size,HBX.block⟩⟩
theorem ξbo (f c:Nat) (w:World) (h:f+c≤24):
 Calls Tryz.prog 132 #[.agg #[.int .i64 f,.int .i64 c]] w fun e w'=>e= .returned (.int .i64 (mskN f c))∧Below w.heap.size w w':=by
 obtain⟨bx,bc,-,-⟩:=ξD w #[.int .i64 f,.int .i64 c] 84
 have q0:=bc 0 _ rfl
 have q1:=bc 1 _ rfl
 have HBX:=ξh bx
 have HVV:=ξh (msk_val h)
 clear bc bx
 go_enter Tryz.func132,Tryz.ntmps132
 go_wp2
 go_ret
 exact⟨by rw[←HVV.out];rfl,HBX.out⟩
theorem bits_and {a b:Nat} (ha:a<16777216) (hb:b<16777216):bits .and .i64 (a:Int) (b:Int)=((a &&& b:Nat):Int):=by
 have hab:a &&& b≤a:=Nat.and_le_left
 have e:(BitVec.ofInt 64 (a:Int) &&& BitVec.ofInt 64 (b:Int)).toNat=a &&& b:=by
  rw[BitVec.toNat_and,BitVec.ofInt_natCast,BitVec.ofInt_natCast,BitVec.toNat_ofNat,BitVec.toNat_ofNat,Nat.mod_eq_of_lt (by omega),Nat.mod_eq_of_lt (by omega)]
 unfold bits
 show IntKind.i64.wrap (((BitVec.ofInt 64 (a:Int) &&& BitVec.ofInt 64 (b:Int)).toNat:Nat):Int)=_
 rw[e,ξi _ (by omega)]
/-! ### The order of routes with the same start -/
def lenR (n:Net) (fs:List Int):Int:=(fs.map fun i=>(fbA n i.toNat).l).sum
def sgnI (x:Int):Int:=if x<0 then -1 else if 0<x then 1 else 0
def lexI:List Int→List Int→Int
 | [],[]=>0
 | [],_::_=> -1
 | _::_,[]=>1
 | a::ar,b::br=>if a<b then -1 else if b<a then 1 else lexI ar br
def cmpR (n:Net) (a b:List Int):Int:=
 if lenR n a=lenR n b then(if a.length=b.length then lexI a b else sgnI ((a.length:Int)-b.length)) else sgnI (lenR n a-lenR n b)
theorem ξa3 {x:Int} :sgnI x<0↔x<0:=by
 unfold sgnI;split
 · omega
 · split <;> omega
theorem lexI_self (a:List Int):lexI a a=0:=by
 induction a with
 | nil=>rfl
 | cons x a ih=>rw[lexI,if_neg (by omega),if_neg (by omega),ih]
theorem lexI_eq:∀{a b:List Int},lexI a b=0→a=b
 | [],[],_=>rfl
 | [],_::_,h=>by simp[lexI] at h
 | _::_,[],h=>by simp[lexI] at h
 | a::ar,b::br,h=>by
   rw[lexI] at h
   split at h
   · omega
   · split at h
     · omega
     · rw[lexI_eq h,show a=b by omega]
theorem lexI_flip:∀(a b:List Int),lexI b a= - lexI a b
 | [],[]=>rfl
 | [],_::_=>rfl
 | _::_,[]=>rfl
 | a::ar,b::br=>by
   rw[lexI,lexI]
   by_cases h:a<b
   · rw[if_pos h,if_neg (by omega),if_pos h];rfl
   · rw[if_neg h]
     by_cases h2:b<a
     · rw[if_pos h2,if_pos h2,if_neg h]
     · rw[if_neg h2,if_neg h2,if_neg h];exact lexI_flip ar br
theorem lexI_trans:∀{a b c:List Int},lexI a b<0→lexI b c<0→lexI a c<0
 | [],[],_,h,_=>by simp[lexI] at h
 | [],_::_,[],_,h=>by simp[lexI] at h
 | [],_::_,_::_,_,_=>by simp[lexI]
 | _::_,[],_,h,_=>by simp[lexI] at h
 | _::_,_::_,[],_,h=>by simp[lexI] at h
 | a::ar,b::br,c::cr,h1,h2=>by
   rw[lexI] at h1 h2 ⊢
   by_cases x1:a<b
   · by_cases x2:b<c
     · rw[if_pos (by omega)];omega
     · rw[if_neg x2] at h2
       by_cases x3:c<b
       · rw[if_pos x3] at h2;omega
       · rw[if_pos (by omega)];omega
   · rw[if_neg x1] at h1
     by_cases x3:b<a
     · rw[if_pos x3] at h1;omega
     · rw[if_neg x3] at h1
       obtain rfl:a=b:=by omega
       by_cases x2:a<c
       · rw[if_pos x2];omega
       · rw[if_neg x2] at h2 ⊢
         by_cases x4:c<a
         · rw[if_pos x4] at h2;omega
         · rw[if_neg x4] at h2 ⊢
           exact lexI_trans h1 h2
theorem cmpR_self (n:Net) (a:List Int):cmpR n a a=0:=by unfold cmpR;rw[if_pos rfl,if_pos rfl,lexI_self]
theorem cmpR_eq {n:Net} {a b:List Int} (h:cmpR n a b=0):a=b:=by
 unfold cmpR at h
 split at h
 · split at h
   · exact lexI_eq h
   · unfold sgnI at h;split at h
     · omega
     · split at h <;> omega
 · unfold sgnI at h;split at h
   · omega
   · split at h <;> omega
theorem cmpR_tot {n:Net} {a b:List Int} (h:¬cmpR n a b<0) (hne:a≠b):cmpR n b a<0:=by
 have h0:cmpR n a b≠0:=fun e=>hne (cmpR_eq e)
 unfold cmpR at h h0 ⊢
 by_cases e1:lenR n a=lenR n b
 · rw[if_pos e1] at h h0;rw[if_pos e1.symm]
   by_cases e2:a.length=b.length
   · rw[if_pos e2] at h h0;rw[if_pos e2.symm,lexI_flip a b];omega
   · rw[if_neg e2] at h h0;rw[if_neg (fun e=>e2 e.symm)]
     rw[ξa3] at h ⊢;omega
 · rw[if_neg e1] at h h0;rw[if_neg (fun e=>e1 e.symm)]
   rw[ξa3] at h ⊢;omega
theorem cmpR_asym {n:Net} {a b:List Int} (h:cmpR n a b<0):¬cmpR n b a<0:=by
 intro h2
 unfold cmpR at h h2
 by_cases e1:lenR n a=lenR n b
 · rw[if_pos e1] at h;rw[if_pos e1.symm] at h2
   by_cases e2:a.length=b.length
   · rw[if_pos e2] at h;rw[if_pos e2.symm,lexI_flip a b] at h2;omega
   · rw[if_neg e2,ξa3] at h;rw[if_neg (fun e=>e2 e.symm),ξa3] at h2;omega
 · rw[if_neg e1,ξa3] at h;rw[if_neg (fun e=>e1 e.symm),ξa3] at h2;omega
theorem ξc0 {n:Net} {a b c:List Int} (h1:cmpR n a b<0) (h2:cmpR n b c<0):cmpR n a c<0:=by
 unfold cmpR at h1 h2 ⊢
 by_cases e1:lenR n a=lenR n b
 · rw[if_pos e1] at h1
   by_cases e2:lenR n b=lenR n c
   · rw[if_pos e2] at h2;rw[if_pos (e1.trans e2)]
     by_cases l1:a.length=b.length
     · rw[if_pos l1] at h1
       by_cases l2:b.length=c.length
       · rw[if_pos l2] at h2;rw[if_pos (l1.trans l2)];exact lexI_trans h1 h2
       · rw[if_neg l2,ξa3] at h2;rw[if_neg (by omega),ξa3];omega
     · rw[if_neg l1,ξa3] at h1
       by_cases l2:b.length=c.length
       · rw[if_neg (by omega),ξa3];omega
       · rw[if_neg l2,ξa3] at h2;rw[if_neg (by omega),ξa3];omega
   · rw[if_neg e2,ξa3] at h2;rw[if_neg (by omega),ξa3];omega
 · rw[if_neg e1,ξa3] at h1
   by_cases e2:lenR n b=lenR n c
   · rw[if_neg (by omega),ξa3];omega
   · rw[if_neg e2,ξa3] at h2;rw[if_neg (by omega),ξa3];omega
/-! ### A route inserted at its place -/
def plcR (n:Net) (r:List Int) (L:List (List Int)):Nat→Nat
 | 0=>0
 | i+1=>if cmpR n r (L[i]?.getD [])<0 then plcR n r L i else i+1
def insR (n:Net) (L:List (List Int)) (r:List Int):List (List Int):=L.take (plcR n r L L.length)++r::L.drop (plcR n r L L.length)
theorem plcR_le (n:Net) (r:List Int) (L:List (List Int)):∀i,plcR n r L i≤i
 | 0=>ξr _
 | i+1=>by
   rw[plcR];split
   · exact Nat.le_succ_of_le (plcR_le n r L i)
   · exact ξr _
theorem plcR_hi {n:Net} {r:List Int} {L:List (List Int)} :∀{i k:Nat},plcR n r L i≤k→k<i→cmpR n r (L[k]?.getD [])<0
 | 0,_,_,h=>by omega
 | i+1,k,h1,h2=>by
   rw[plcR] at h1
   split at h1
   · rename_i hc
     by_cases e:k=i
     · rw[e];exact hc
     · exact plcR_hi h1 (by omega)
   · omega
theorem plcR_lo {n:Net} {r:List Int} {L:List (List Int)} :∀{i:Nat},0<plcR n r L i→ ¬cmpR n r (L[plcR n r L i-1]?.getD [])<0
 | 0,h=>by simp[plcR] at h
 | i+1,h=>by
   rw[plcR] at h ⊢
   split at h
   · rename_i hc
     rw[if_pos hc];exact plcR_lo h
   · rename_i hc
     rw[if_neg hc];exact hc
def srtR (n:Net) (L:List (List Int)):Prop:=L.Pairwise fun a b=>cmpR n a b<0
theorem ξbG (n:Net) (L:List (List Int)) (r:List Int):(insR n L r).Perm (r::L):=by
 unfold insR
 have:=List.perm_middle (a:=r) (l₁:=L.take (plcR n r L L.length)) (l₂:=L.drop (plcR n r L L.length))
 rwa [List.take_append_drop] at this
theorem insR_len (n:Net) (L:List (List Int)) (r:List Int):(insR n L r).length=L.length+1:=by
 rw[(ξbG n L r).length_eq];rfl
theorem insR_srt {n:Net} {L:List (List Int)} {r:List Int} (h:srtR n L) (hr:r ∉ L):srtR n (insR n L r):=by
 unfold insR srtR
 have hp:=plcR_le n r L L.length
 have hhi:=fun k h1 h2=>@plcR_hi n r L L.length k h1 h2
 have hlo:=@plcR_lo n r L L.length
 generalize plcR n r L L.length=p at *
 have h':(L.take p++L.drop p).Pairwise fun a b=>cmpR n a b<0:=by rw[List.take_append_drop];exact h
 obtain⟨ha,hb,hab⟩:=List.pairwise_append.1 h'
 refine List.pairwise_append.2 ⟨ha,List.pairwise_cons.2 ⟨fun y hy=> ?_,hb⟩,fun x hx y hy=> ?_⟩
 · obtain⟨k,hk,e⟩:=List.getElem_of_mem hy
   rw[List.length_drop] at hk
   have:=hhi (p+k) (by omega) (by omega)
   rw[ξg (by omega)] at this
   rw[List.getElem_drop] at e
   rw[←e];exact this
 · rcases List.mem_cons.1 hy with rfl | hy
   · have hp0:0<p:=by
      rcases Nat.eq_zero_or_pos p with e | e
      · rw[e] at hx;simp at hx
      · exact e
     have h1:=hlo hp0
     have hpl:p-1<L.length:=by omega
     rw[ξg hpl] at h1
     have h2:cmpR n L[p-1] y<0:=cmpR_tot h1 (fun e=>hr (by rw[e];exact ξj hpl))
     obtain⟨k,hk,e⟩:=List.getElem_of_mem hx
     rw[List.length_take] at hk
     rw[List.getElem_take] at e
     by_cases hkp:k=p-1
     · subst hkp;rw[←e];exact h2
     · have:=List.pairwise_iff_getElem.1 h k (p-1) (by omega) hpl (by omega)
       rw[e] at this
       exact ξc0 this h2
   · exact hab x hx y hy
theorem srtR_one {n:Net} {L M:List (List Int)} (h1:srtR n L) (h2:srtR n M) (hp:L.Perm M):L=M:=
 List.Perm.eq_of_pairwise (le:=fun a b=>cmpR n a b<0) (fun _ _ _ _ x y=>absurd y (cmpR_asym x)) h1 h2 hp
theorem insAll {n:Net} :∀{M L:List (List Int)},srtR n L→(L++M).Nodup→srtR n (M.foldl (insR n) L)∧(M.foldl (insR n) L).Perm (L++M)
 | [],L,h,_=>by simp;exact h
 | r::M,L,h,hn=>by
   have hr:r ∉ L:=fun hr=>by
    have:=(List.nodup_append.1 hn).2.2 r hr r (by simp)
    exact this rfl
   have hp:(insR n L r++M).Perm (L++r::M):=((ξbG n L r).append_right M).trans List.perm_middle.symm
   obtain⟨a,b⟩:=insAll (M:=M) (insR_srt h hr) (hp.nodup_iff.2 hn)
   exact⟨a,b.trans hp⟩
/-! ### The search -/
def extR (n:Net) (tt:Int):Nat→Int→List Int→List Int→List (List Int)
 | 0,_,_,_=>[]
 | f+1,t,seen,fb=>if t=tt then[fb] else(List.range n.fs.length).flatMap fun i=>if 0≤othE (fbA n i) t∧othE (fbA n i) t ∉ seen then extR n tt f (othE (fbA n i) t) (seen++[othE (fbA n i) t]) (fb++[(i:Int)]) else[]
theorem extR_pre {n:Net} {tt:Int} :∀{f:Nat} {t:Int} {seen fb r:List Int},r∈extR n tt f t seen fb→fb <+:r
 | 0,_,_,_,_,h=>by simp[extR] at h
 | f+1,t,seen,fb,r,h=>by
   rw[extR] at h
   split at h
   · simp at h;subst h;exact List.prefix_rfl
   · obtain⟨i,-,hi⟩:=List.mem_flatMap.1 h
     split at hi
     · exact(List.prefix_append fb _).trans (extR_pre hi)
     · cases hi
theorem ξc1 {n:Net} {tt:Int} :∀{f:Nat} {t:Int} {seen fb:List Int},(extR n tt f t seen fb).Nodup
 | 0,_,_,_=>by simp[extR]
 | f+1,t,seen,fb=>by
   rw[extR]
   split
   · simp
   · refine List.pairwise_flatMap.2 ⟨fun i _=> ?_,List.nodup_range.imp fun {i j} hij x hx y hy e=> ?_⟩
     · split
       · exact ξc1
       · simp
     · subst e
       split at hx
       · split at hy
         · obtain⟨u,hu⟩:=extR_pre hx
           obtain⟨v,hv⟩:=extR_pre hy
           rw[←hu] at hv
           simp only[List.append_assoc,List.append_cancel_left_eq] at hv
           simp at hv
           exact hij (by have:=hv.1;omega)
         · cases hy
       · cases hx
def ξW (n:Net) (L M:List (List Int)):List (List Int):=(M.take (201-L.length)).foldl (insR n) L
theorem fold_len (n:Net):∀(M L:List (List Int)),(M.foldl (insR n) L).length=L.length+M.length
 | [],L=>by simp
 | r::M,L=>by rw[List.foldl_cons,fold_len n M,insR_len,List.length_cons];omega
theorem feedR_len {n:Net} {L M:List (List Int)} (h:L.length≤201):(ξW n L M).length=min 201 (L.length+M.length):=by
 unfold ξW;rw[fold_len,List.length_take];omega
theorem feedR_nil (n:Net) (L:List (List Int)):ξW n L []=L:=by simp[ξW]
theorem feedR_full {n:Net} {L M:List (List Int)} (h:201≤L.length):ξW n L M=L:=by
 unfold ξW;rw[show 201-L.length=0 by omega];simp
theorem feedR_one {n:Net} {L:List (List Int)} {r:List Int} (h:L.length≤200):ξW n L [r]=insR n L r:=by
 unfold ξW;rw[List.take_of_length_le (by simp;omega)];rfl
theorem feedR_app {n:Net} {L A B:List (List Int)} (h:L.length≤201):ξW n (ξW n L A) B=ξW n L (A++B):=by
 have hl:=feedR_len (n:=n) (M:=A) h
 unfold ξW at hl ⊢
 rw[hl,List.take_append,List.foldl_append]
 congr 2
 omega
def allR (n:Net) (from_ tt:Int):List (List Int):=ξW n [] (extR n tt (n.ns.length+1) from_ [from_] [])
theorem allR_srt (n:Net) (from_ tt:Int) (h:(extR n tt (n.ns.length+1) from_ [from_] []).length≤200):srtR n (allR n from_ tt)∧(allR n from_ tt).Perm (extR n tt (n.ns.length+1) from_ [from_] []):=by
 unfold allR ξW
 rw[List.take_of_length_le (by simp;omega)]
 have:=insAll (n:=n) (L:=[]) (M:=extR n tt (n.ns.length+1) from_ [from_] []) List.Pairwise.nil (by simpa using ξc1)
 simpa using this
theorem allR_len (n:Net) (from_ tt:Int):(allR n from_ tt).length=min 201 (extR n tt (n.ns.length+1) from_ [from_] []).length:=by
 unfold allR;rw[feedR_len (by simp)];simp
theorem allR_one {n:Net} {from_ tt:Int} {L:List (List Int)} (h:(extR n tt (n.ns.length+1) from_ [from_] []).length≤200) (hs:L.Pairwise fun a b=>¬cmpR n b a<0) (hp:L.Perm (extR n tt (n.ns.length+1) from_ [from_] [])):L=allR n from_ tt:=by
 obtain⟨h1,h2⟩:=allR_srt n from_ tt h
 have hn:L.Nodup:=hp.nodup_iff.2 ξc1
 refine srtR_one ?_ h1 (hp.trans h2.symm)
 exact(List.Pairwise.and hs hn).imp fun {a b} ⟨x,y⟩=>cmpR_tot x (fun e=>y e.symm)
structure Dem where
 a:Int
 b:Int
 r:Int
 c:Int
def demV (d:Dem):Value:= .agg #[.int .i64 d.a,.int .i64 d.b,.int .i64 d.r,.int .i64 d.c]
def demOk (d:Dem) (m:Nat):Bool:=inB d.a 0 ((m:Int)-1)&&inB d.b 0 ((m:Int)-1)&&(d.a != d.b)&&inB d.r 1 1000&&inB d.c 0 2
theorem ξc9 (a1 a2:Option Addr) (m c1 n2 c2:Nat) (d:Dem) (w:World) (hm:m≤1000):
 Calls Tryz.prog 127 #[.agg #[.slice a1 m c1,.slice a2 n2 c2],demV d] w fun e w'=>e= .returned (.bool (demOk d m))∧Below w.heap.size w w':=by
 obtain⟨a,b,r,c⟩:=d
 have hal:=(ξb w.heap.size w).alloc (ξr _) (.cells #[.slice a1 m c1,.slice a2 n2 c2] 35)
 have HB:=ξh (hal.alloc hal.size (.cells #[.int .i64 a,.int .i64 b,.int .i64 r,.int .i64 c] 53))
 have HF:=ξh (show demOk ⟨a,b,r,c⟩ m=(inB a 0 ((m:Int)-1)&&inB b 0 ((m:Int)-1)&&(a != b)&&inB r 1 1000&&inB c 0 2) from rfl)
 generalize demOk ⟨a,b,r,c⟩ m=q at *
 unfold demV
 clear hal
 cases h0:inB a 0 ((m:Int)-1)
 · rw[h0] at HF
   go_enter Tryz.func127,Tryz.ntmps127
   go_wp2_with (go_at_call 77;refine(ξI _ _ _ _).mono ?_;rintro e w' ⟨rfl,rfl⟩)
   go_ret
   exact⟨by rw[HF.out];rfl,HB.out⟩
 rw[h0] at HF
 cases h1:inB b 0 ((m:Int)-1)
 · rw[h1] at HF
   go_enter Tryz.func127,Tryz.ntmps127
   go_wp2_with (go_at_call 77;refine(ξI _ _ _ _).mono ?_;rintro e w' ⟨rfl,rfl⟩)
   go_ret
   exact⟨by rw[HF.out];rfl,HB.out⟩
 rw[h1] at HF
 cases h2:(a != b)
 · rw[h2] at HF
   go_enter Tryz.func127,Tryz.ntmps127
   go_wp2_with (go_at_call 77;refine(ξI _ _ _ _).mono ?_;rintro e w' ⟨rfl,rfl⟩)
   go_ret
   exact⟨by rw[HF.out];rfl,HB.out⟩
 rw[h2] at HF
 cases h3:inB r 1 1000
 · rw[h3] at HF
   go_enter Tryz.func127,Tryz.ntmps127
   go_wp2_with (go_at_call 77;refine(ξI _ _ _ _).mono ?_;rintro e w' ⟨rfl,rfl⟩)
   go_ret
   exact⟨by rw[HF.out];rfl,HB.out⟩
 rw[h3] at HF
 go_enter Tryz.func127,Tryz.ntmps127
 go_wp2_with (go_at_call 77;refine(ξI _ _ _ _).mono ?_;rintro e w' ⟨rfl,rfl⟩)
 go_ret
 exact⟨by rw[HF.out];rfl,HB.out⟩
theorem ξci (a1 a2:Option Addr) (m c1 n2 c2:Nat) (d:Dem) (w:World) (hm:m≤1000):
 Calls Tryz.prog 81 #[.agg #[.slice a1 m c1,.slice a2 n2 c2],demV d] w fun e w'=>e= .returned (.bool (demOk d m))∧Below w.heap.size w w':=by
 obtain⟨a,b,r,c⟩:=d
 have hal:=(ξb w.heap.size w).alloc (ξr _) (.cells #[.slice a1 m c1,.slice a2 n2 c2] 35)
 have HB:=ξh (hal.alloc hal.size (.cells #[.int .i64 a,.int .i64 b,.int .i64 r,.int .i64 c] 53))
 have HF:=ξh (show demOk ⟨a,b,r,c⟩ m=(inB a 0 ((m:Int)-1)&&inB b 0 ((m:Int)-1)&&(a != b)&&inB r 1 1000&&inB c 0 2) from rfl)
 generalize demOk ⟨a,b,r,c⟩ m=q at *
 unfold demV
 clear hal
 cases h0:inB a 0 ((m:Int)-1)
 · rw[h0] at HF
   go_enter Tryz.func81,Tryz.ntmps81
   go_wp2_with (go_at_call 74;refine(ξE _ _ _ _).mono ?_;rintro e w' ⟨rfl,rfl⟩)
   go_ret
   exact⟨by rw[HF.out];rfl,HB.out⟩
 rw[h0] at HF
 cases h1:inB b 0 ((m:Int)-1)
 · rw[h1] at HF
   go_enter Tryz.func81,Tryz.ntmps81
   go_wp2_with (go_at_call 74;refine(ξE _ _ _ _).mono ?_;rintro e w' ⟨rfl,rfl⟩)
   go_ret
   exact⟨by rw[HF.out];rfl,HB.out⟩
 rw[h1] at HF
 cases h2:(a != b)
 · rw[h2] at HF
   go_enter Tryz.func81,Tryz.ntmps81
   go_wp2_with (go_at_call 74;refine(ξE _ _ _ _).mono ?_;rintro e w' ⟨rfl,rfl⟩)
   go_ret
   exact⟨by rw[HF.out];rfl,HB.out⟩
 rw[h2] at HF
 cases h3:inB r 1 1000
 · rw[h3] at HF
   go_enter Tryz.func81,Tryz.ntmps81
   go_wp2_with (go_at_call 74;refine(ξE _ _ _ _).mono ?_;rintro e w' ⟨rfl,rfl⟩)
   go_ret
   exact⟨by rw[HF.out];rfl,HB.out⟩
 rw[h3] at HF
 go_enter Tryz.func81,Tryz.ntmps81
 go_wp2_with (go_at_call 74;refine(ξE _ _ _ _).mono ?_;rintro e w' ⟨rfl,rfl⟩)
 go_ret
 exact⟨by rw[HF.out];rfl,HB.out⟩
end Go.Proofs.YtofcicomhnkocaaGreat
