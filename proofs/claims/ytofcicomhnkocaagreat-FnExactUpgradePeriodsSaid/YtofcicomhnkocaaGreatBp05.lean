/- Joined: XGroW XGroF XGroS XLgr XOpn XOpg. -/
import Derived.Test.YtofcicomhnkocaaGreatBp03
import Derived.Test.YtofcicomhnkocaaGreatBp04
import Derived.Lib.SmallJoins
import Derived.OpenShut
set_option linter.unusedVariables false
namespace Go.Proofs.YtofcicomhnkocaaGreat
set_option maxHeartbeats 3200000
open Go.RowKit Go.Sort
set_option maxRecDepth 100000
/-! ### Searches -/
section
variable {α : Type}
theorem anyG_more {zs:List α} {p:α→Bool} {nil:α} {k:Nat} (hk:k<zs.length) (h:(zs.take k).any p=false) (e:p (zs[k]?.getD nil)=false):(zs.take (k+1)).any p=false:=by
 rw[List.getElem?_eq_getElem hk] at e
 rw[List.take_add_one,List.any_append,h,List.getElem?_eq_getElem hk]
 simpa using e
def idxG (zs:List α) (p:α→Bool):Int:=match zs.findIdx? p with | some k=>k | none=> -1
theorem idxG_none {zs:List α} {p:α→Bool} (h:zs.any p=false):idxG zs p= -1:=by
 have:zs.findIdx? p=none:=by rw[List.findIdx?_eq_none_iff];simpa[List.any_eq_false] using h
 simp[idxG,this]
theorem idxG_some {zs:List α} {p:α→Bool} {nil:α} {k:Nat} (hk:k<zs.length) (h:(zs.take k).any p=false) (e:p (zs[k]?.getD nil)=true):idxG zs p=k:=by
 have:zs.findIdx? p=some k:=by
  rw[List.findIdx?_eq_some_iff_getElem]
  refine⟨hk,by simpa[List.getElem?_eq_getElem hk] using e,fun j hj=> ?_⟩
  simp only[List.any_eq_false] at h
  have:=h zs[j] (List.mem_take_iff_getElem.2 ⟨j,by omega,by simp⟩)
  simpa using this
 simp[idxG,this]
theorem idxG_geq (zs:List α) (p:α→Bool):decide (0≤idxG zs p)=zs.any p:=by
 cases h:zs.findIdx? p with
 | none=>
   rw[List.findIdx?_eq_none_iff] at h
   have:zs.any p=false:=by simpa[List.any_eq_false] using h
   rw[this];simp[idxG_none this]
 | some k=>
   have:=h
   rw[List.findIdx?_eq_some_iff_getElem] at h
   obtain⟨hk,e,_⟩:=h
   have h2:zs.any p=true:=List.any_eq_true.2 ⟨_,List.getElem_mem hk,e⟩
   rw[h2];simp[idxG,this]
end
def IsFn (F:FuncId):Prop:=∀(args:Array Value) (w:World),(callFunc F args).run Tryz.prog w= .ok (.enter F args) w
theorem isFn_of {F : FuncId} {fn : Func} (h1 : Tryz.prog.funcs[F]? = some fn) (h2 : (fn.name == "runtime.NumGoroutine") = false) (h3 : fn.body.isNone = false) : IsFn F := by
 intro args w
 unfold callFunc
 simp only[Sem.run_bind,run_program,Result.andThen_ok,h1,h2,h3]
 rfl
/-! ### Growths -/
structure Gro where
 d:Dem
 s:Int
 e:Int
def nilG:Gro:=⟨⟨0,0,0,0⟩,0,0⟩
def groE (g:Gro):List Value:=[.int .i64 g.d.a,.int .i64 g.d.b,.int .i64 g.d.r,.int .i64 g.d.c,.int .i64 g.s,.int .i64 g.e]
def groV (g:Gro):Value:= .agg #[.int .i64 g.d.a,.int .i64 g.d.b,.int .i64 g.d.r,.int .i64 g.d.c,.int .i64 g.s,.int .i64 g.e]
def groOk (m:Nat) (g:Gro):Bool:=demOk g.d m&&inB g.s 0 g.e&&decide (g.e<8)
def grsOk (n:Net) (gs:List Gro):Bool:=netOk n&&decide (gs.length≤12) && !gs.any (fun g=>!groOk n.ns.length g)
abbrev ptr (b:Nat):Value:= .pointer (some ⟨b,0,none⟩)
theorem growthBad_any (g:Gro) (bn:Nat) (a1 a2:Option Addr) (m c1 n2 c2:Nat) (w:World) (hm:m≤1000) (h0:w.cell? ⟨bn,0,none⟩=some (.slice a1 m c1)) (h1:w.cell? ⟨bn,1,none⟩=some (.slice a2 n2 c2)):
 Calls Tryz.prog 80 #[groV g,ptr bn] w fun e w'=>e= .returned (.bool (!groOk m g))∧Below w.heap.size w w':=by
 obtain⟨⟨a,b,r,c⟩,s,e⟩:=g
 have HD:=Lib.hid (fun w=>isDemand_any a1 a2 m c1 n2 c2 ⟨a,b,r,c⟩ w hm)
 have HF:=Lib.hid (show groOk m ⟨⟨a,b,r,c⟩,s,e⟩=(demOk ⟨a,b,r,c⟩ m&&inB s 0 e&&decide (e<8)) from rfl)
 generalize groOk m ⟨⟨a,b,r,c⟩,s,e⟩=q at *
 generalize demOk ⟨a,b,r,c⟩ m=dk at *
 obtain⟨bx,-,-,-⟩:=box_facts w #[.int .i64 a,.int .i64 b,.int .i64 r,.int .i64 c,.int .i64 s,.int .i64 e] 55
 have HB:=Lib.hid bx
 have hbw:=World.block_lt_of_cell? w _ h0
 have hd8:decide (8≤e)= !decide (e<8):=by rw[Bool.eq_iff_iff];simp
 have hq:(!q)=(!dk || !inB s 0 e || !decide (e<8)):=by rw[HF.out];cases dk <;> cases inB s 0 e <;> cases decide (e<8) <;> rfl
 have HQ:=Lib.hid hq
 have H8:=Lib.hid hd8
 unfold groV
 unfold demV at HD
 clear bx hq hd8
 cases dk
 · go_enter Tryz.func80,Tryz.ntmps80
   go_wp2_with (go_at_call 81;refine(HD.out _).mono ?_;rintro e w' ⟨rfl,b2⟩;have HB2:=Lib.hid (HB.out.trans (b2.mono HB.out.size));clear b2)
   go_ret
   exact⟨by rw[HQ.out];rfl,HB2.out⟩
 cases h2:inB s 0 e
 · rw[h2] at HQ
   go_enter Tryz.func80,Tryz.ntmps80
   go_wp2_with (first | (go_at_call 81;refine(HD.out _).mono ?_;rintro e w' ⟨rfl,b2⟩;have HB2:=Lib.hid (HB.out.trans (b2.mono HB.out.size));obtain⟨hc,hf⟩:=bcell b2;clear b2) | (go_at_call 74;refine(within_any _ _ _ _).mono ?_;rintro e w' ⟨rfl,rfl⟩;rw[h2]))
   go_ret
   exact⟨by rw[HQ.out];rfl,HB2.out⟩
 rw[h2] at HQ
 cases h3:decide (e<8)
 all_goals
  rw[h3] at H8
  have h8:=H8.out
  simp only[Bool.not_false,Bool.not_true] at h8
  rw[h3] at HQ
  clear h3
  go_enter Tryz.func80,Tryz.ntmps80
  go_wp2_with (first | (go_at_call 81;refine(HD.out _).mono ?_;rintro e w' ⟨rfl,b2⟩;have HB2:=Lib.hid (HB.out.trans (b2.mono HB.out.size));obtain⟨hc,hf⟩:=bcell b2;clear b2) | (go_at_call 74;refine(within_any _ _ _ _).mono ?_;rintro e w' ⟨rfl,rfl⟩;rw[h2]))
  go_ret
  exact⟨by rw[HQ.out];rfl,HB2.out⟩
theorem indexFuncGro_any (v:Value) (zs:List Gro) (F:FuncId) (b0:Nat) (p:Gro→Bool) (w:World) (h:Rdt w (flt 6 groE zs) v) (hF:IsFn F)
 (hp:∀(i:Nat) (w':World),i<zs.length→Below w.heap.size w w'→ ∀z,z=zs[i]?.getD nilG→Calls Tryz.prog F #[groV z,ptr b0] w' fun e w2=>e= .returned (.bool (p z))∧Below w'.heap.size w' w2):
 Calls Tryz.prog 131 #[v,.func (.func F) #[] #[ptr b0]] w fun e w'=>e= .returned (.int .i64 (idxG zs p))∧Below w.heap.size w w':=by
 obtain⟨a,n,cap,rfl,HN,_,hla,ha⟩:=flt_opn (m:=6) (enc:=groE) (fun _=>rfl) (by omega) nilG h
 rw[HN.out] at hp
 have HP:=Lib.hid hp
 have HA:=Lib.hid ha
 clear hp ha h
 have hF:=show∀(args:Array Value) (w:World),(callFunc F args).run Tryz.prog w= .ok (.enter F args) w from hF
 have HI:=Lib.hid (fun k hk h e=>idxG_some (zs:=zs) (p:=p) (nil:=nilG) (k:=k) hk h e)
 have HO:=Lib.hid (idxG_none (zs:=zs) (p:=p))
 have HM:=Lib.hid (fun k hk h e=>anyG_more (zs:=zs) (p:=p) (nil:=nilG) (k:=k) hk h e)
 generalize idxG zs p=r at *
 go_enter Tryz.func131,Tryz.ntmps131
 go_wp2
 go_loopw [5,8] (fun _ i wr=>∃k:Nat,k≤n∧i= .int .i64 k∧Hid ((zs.take k).any p=false)∧Hid (Below w.heap.size w wr)) (fun _ i _=>n-(intOf i).toNat)
 case atStart=>exact⟨0,by omega,rfl,by simp[Hid],Below.refl _ _⟩
 case round=>
  obtain⟨k,hk,rfl,HT,HB⟩:=hrel
  by_cases hlt:k<n
  · have hltI:(k:Int)<(n:Int):=by omega
    have hkx:k<zs.length:=by rw[HN.out];exact hlt
    obtain⟨b,off,rfl,hbs,hcs⟩:=HA.out (by omega)
    have hcell0:=hcs k hlt 0 _ rfl
    have hcell1:=hcs k hlt 1 _ rfl
    have hcell2:=hcs k hlt 2 _ rfl
    have hcell3:=hcs k hlt 3 _ rfl
    have hcell4:=hcs k hlt 4 _ rfl
    have hcell5:=hcs k hlt 5 _ rfl
    have hw0:=(HB.out.cell (p:=⟨b,off+k*6+0,none⟩) hbs).trans hcell0
    have hw1:=(HB.out.cell (p:=⟨b,off+k*6+1,none⟩) hbs).trans hcell1
    have hw2:=(HB.out.cell (p:=⟨b,off+k*6+2,none⟩) hbs).trans hcell2
    have hw3:=(HB.out.cell (p:=⟨b,off+k*6+3,none⟩) hbs).trans hcell3
    have hw4:=(HB.out.cell (p:=⟨b,off+k*6+4,none⟩) hbs).trans hcell4
    have hw5:=(HB.out.cell (p:=⟨b,off+k*6+5,none⟩) hbs).trans hcell5
    simp only[Nat.add_zero] at hw0
    have HPK:=Lib.hid (HP.out k wr hlt HB.out _ rfl)
    have HIK:=Lib.hid (HI.out k hkx HT.out)
    have HMK:=Lib.hid (HM.out k hkx HT.out)
    clear hcs hkx hcell0 hcell1 hcell2 hcell3 hcell4 hcell5
    generalize zs[k]?.getD nilG=z at *
    unfold groV at HPK
    generalize p z=pz at *
    have hz:=HB.out.size
    cases pz
    · have HE:=Lib.hid (HMK.out rfl)
      go_wp2_with fail
      refine HPK.out.mono ?_
      rintro e w2 ⟨rfl,b2⟩
      have HB2:=Lib.hid (HB.out.trans (b2.mono hz))
      clear b2
      go_wp2
      go_roundw
      case rel=>exact⟨k+1,by omega,by go_num,HE.out,HB2.out⟩
      case measure=>simp[intOf];omega
    · have HE:=Lib.hid (HIK.out rfl)
      go_wp2_with fail
      refine HPK.out.mono ?_
      rintro e w2 ⟨rfl,b2⟩
      have HB2:=Lib.hid (HB.out.trans (b2.mono hz))
      clear b2
      go_wp2
      go_ret
      exact⟨by rw[HE.out];rfl,HB2.out⟩
  · obtain rfl:n=k:=by omega
    have hall:=HT.out
    rw[←HN.out,List.take_length] at hall
    have HE:=Lib.hid (HO.out hall)
    clear hall
    go_wp2
    go_ret
    exact⟨by rw[HE.out];rfl,HB.out⟩
theorem containsFuncGro_any (v:Value) (zs:List Gro) (F:FuncId) (b0:Nat) (p:Gro→Bool) (w:World) (h:Rdt w (flt 6 groE zs) v) (hF:IsFn F)
 (hp:∀(i:Nat) (w':World),i<zs.length→Below w.heap.size w w'→ ∀z,z=zs[i]?.getD nilG→Calls Tryz.prog F #[groV z,ptr b0] w' fun e w2=>e= .returned (.bool (p z))∧Below w'.heap.size w' w2):
 Calls Tryz.prog 79 #[v,.func (.func F) #[] #[ptr b0]] w fun e w'=>e= .returned (.bool (zs.any p))∧Below w.heap.size w w':=by
 have HI:=Lib.hid (indexFuncGro_any v zs F b0 p w h hF hp)
 have HG:=Lib.hid (idxG_geq zs p)
 generalize idxG zs p=r at *
 generalize zs.any p=s at *
 obtain⟨a,n,cap,rfl,-⟩:=flt_opn (m:=6) (enc:=groE) (fun _=>rfl) (by omega) nilG h
 clear h hp hF
 go_enter Tryz.func79,Tryz.ntmps79
 go_wp2_with fail
 refine HI.out.mono ?_
 rintro e w2 ⟨rfl,b2⟩
 have HB:=Lib.hid b2
 clear b2
 go_wp2
 go_ret
 exact⟨by rw[←HG.out];rfl,HB.out⟩
theorem netOk_len {n:Net} (h:netOk n=true):n.ns.length≤8:=by have:=netOk_yes h;omega
theorem implGrowths_any (v u:Value) (n:Net) (gs:List Gro) (w:World) (h:NetR w v n) (hg:Rdt w (flt 6 groE gs) u):
 Calls Tryz.prog 27 #[v,u] w fun e w'=>e= .returned (.bool (grsOk n gs))∧Below w.heap.size w w':=by
 have HVN:=Lib.hid (fun w' (hb:Below w.heap.size w w')=>IsValidNetwork_any v n w' (h.behind hb))
 have HL:=Lib.hid (@netOk_len n)
 obtain⟨u1,u2,rfl,r1,r2,hsm⟩:=h
 obtain⟨a1,m1,c1,rfl,HN1,hc1,hm1,-⟩:=flt_opn (m:=1) (enc:=strE) (fun _=>rfl) (by omega) nilS r1
 obtain⟨a2,m2,c2,rfl,HN2,hc2,hm2,-⟩:=flt_opn (m:=4) (enc:=fibE) (fun _=>rfl) (by omega) nilB r2
 obtain⟨a3,m3,c3,rfl,HN3,hc3,hm3,-⟩:=flt_opn (m:=6) (enc:=groE) (fun _=>rfl) (by omega) nilG hg
 obtain⟨bx,bc,blt,-⟩:=box_facts w #[.slice a1 m1 c1,.slice a2 m2 c2] 35
 have q0:=bc 0 _ rfl
 have q1:=bc 1 _ rfl
 have HBX:=Lib.hid bx
 have HG:=Lib.hid (hg.behind bx)
 have HF:=Lib.hid (show grsOk n gs=(netOk n&&decide (m3≤12) && !gs.any (fun g=>!groOk m1 g)) by unfold grsOk;rw[HN1.out,HN3.out])
 rw[HN1.out] at HL
 generalize grsOk n gs=q at *
 clear r1 r2 hsm bc bx hg
 have HFN:=Lib.hid (show IsFn 80 from isFn_of rfl rfl rfl)
 go_enter Tryz.func27,Tryz.ntmps27
 go_wp2_with fail
 generalize w.alloc (.cells #[.slice a1 m1 c1,.slice a2 m2 c2] 35)=w1 at *
 have HVN1:=Lib.hid (HVN.out w1 HBX.out)
 cases hok:netOk n
 · rw[hok] at HVN1 HF
   refine HVN1.out.mono ?_
   rintro e w2 ⟨rfl,b2⟩
   have HB2:=Lib.hid (HBX.out.trans (b2.mono HBX.out.size))
   clear b2
   go_wp2
   go_ret
   exact⟨by rw[HF.out];rfl,HB2.out⟩
 rw[hok] at HVN1 HF
 have hm:=HL.out hok
 clear hok
 refine HVN1.out.mono ?_
 rintro e w2 ⟨rfl,b2⟩
 have HB2:=Lib.hid (HBX.out.trans (b2.mono HBX.out.size))
 have p0:=(b2.cell blt).trans q0
 have p1:=(b2.cell blt).trans q1
 have HG2:=Lib.hid (HG.out.behind b2)
 clear b2
 by_cases h12:m3≤12
 case neg=>
  have hd:decide ((m3:Int)≤12)=false:=decide_eq_false (by omega)
  have hd2:decide (m3≤12)=false:=decide_eq_false (by omega)
  clear h12
  go_wp2
  go_ret
  exact⟨by rw[HF.out,hd2];simp,HB2.out⟩
 have hd:decide ((m3:Int)≤12)=true:=decide_eq_true (by omega)
 have hd2:decide (m3≤12)=true:=decide_eq_true (by omega)
 rw[hd2] at HF
 have HCF:=Lib.hid (containsFuncGro_any _ gs 80 w.heap.size (fun g=>!groOk m1 g) w2 HG2.out HFN.out (fun i w' _ hb z _=>growthBad_any z w.heap.size a1 a2 m1 c1 m2 c2 w' (by omega) ((hb.cell (World.block_lt_of_cell? _ _ p0)).trans p0) ((hb.cell (World.block_lt_of_cell? _ _ p1)).trans p1)))
 generalize gs.any (fun g=>!groOk m1 g)=any at *
 clear h12
 go_wp2_with fail
 refine HCF.out.mono ?_
 rintro e w3 ⟨rfl,b3⟩
 have HB3:=Lib.hid (HB2.out.trans (b3.mono HB2.out.size))
 clear b3
 go_wp2
 go_ret
 exact⟨by rw[HF.out];rfl,HB3.out⟩
theorem grs_any_no {m:Nat} {gs:List Gro} {i:Nat} (hi:i<gs.length) (h:groOk m (gs[i]?.getD nilG)=false):gs.any (fun g=>!groOk m g)=true:=by
 rw[List.any_eq_true]
 rw[List.getElem?_eq_getElem hi] at h
 exact⟨gs[i],List.getElem_mem hi,by simpa using h⟩
theorem l26Good_any (v u:Value) (n:Net) (gs:List Gro) (w:World) (h:NetR w v n) (hg:Rdt w (flt 6 groE gs) u):
 Calls Tryz.prog 76 #[v,u] w fun e w'=>e= .returned (.bool (grsOk n gs))∧Below w.heap.size w w':=by
 have HVN:=Lib.hid (fun w' (hb:Below w.heap.size w w')=>l2Good_any v n w' (h.behind hb))
 have HL:=Lib.hid (@netOk_len n)
 obtain⟨u1,u2,rfl,r1,r2,hsm⟩:=h
 obtain⟨a1,m1,c1,rfl,HN1,hc1,hm1,-⟩:=flt_opn (m:=1) (enc:=strE) (fun _=>rfl) (by omega) nilS r1
 obtain⟨a2,m2,c2,rfl,HN2,hc2,hm2,-⟩:=flt_opn (m:=4) (enc:=fibE) (fun _=>rfl) (by omega) nilB r2
 obtain⟨a3,m3,c3,rfl,HN3,hc3,hm3,ha3⟩:=flt_opn (m:=6) (enc:=groE) (fun _=>rfl) (by omega) nilG hg
 obtain⟨bx,bc,blt,-⟩:=box_facts w #[.slice a1 m1 c1,.slice a2 m2 c2] 35
 have q0:=bc 0 _ rfl
 have q1:=bc 1 _ rfl
 have HBX:=Lib.hid bx
 have HA:=Lib.hid ha3
 have HF:=Lib.hid (show grsOk n gs=(netOk n&&decide (m3≤12) && !gs.any (fun g=>!groOk m1 g)) by unfold grsOk;rw[HN1.out,HN3.out])
 have HNO:=Lib.hid (fun i hi h=>@grs_any_no m1 gs i hi h)
 have HMO:=Lib.hid (fun k hk h e=>anyG_more (zs:=gs) (p:=fun g=>!groOk m1 g) (nil:=nilG) (k:=k) hk h e)
 rw[HN1.out] at HL
 generalize grsOk n gs=q at *
 clear r1 r2 hsm bc bx hg ha3
 go_enter Tryz.func76,Tryz.ntmps76
 go_wp2_with fail
 generalize w.alloc (.cells #[.slice a1 m1 c1,.slice a2 m2 c2] 35)=w1 at *
 have HVN1:=Lib.hid (HVN.out w1 HBX.out)
 cases hok:netOk n
 · rw[hok] at HVN1 HF
   refine HVN1.out.mono ?_
   rintro e w2 ⟨rfl,b2⟩
   have HB2:=Lib.hid (HBX.out.trans (b2.mono HBX.out.size))
   clear b2
   go_wp2
   go_ret
   exact⟨by rw[HF.out];rfl,HB2.out⟩
 rw[hok] at HVN1 HF
 have hm:=HL.out hok
 clear hok
 refine HVN1.out.mono ?_
 rintro e w2 ⟨rfl,b2⟩
 have HB2:=Lib.hid b2
 clear b2
 by_cases h12:m3≤12
 case neg=>
  have hd:decide (12<(m3:Int))=true:=decide_eq_true (by omega)
  have hd2:decide (m3≤12)=false:=decide_eq_false (by omega)
  have hd3:decide (12<m3)=true:=decide_eq_true (by omega)
  clear h12
  go_wp2
  go_ret
  exact⟨by rw[HF.out,hd2];simp,HBX.out.trans (HB2.out.mono HBX.out.size)⟩
 have hd:decide (12<(m3:Int))=false:=decide_eq_false (by omega)
 have hd3:decide (12<m3)=false:=decide_eq_false (by omega)
 have hd2:decide (m3≤12)=true:=decide_eq_true (by omega)
 rw[hd2] at HF
 clear h12
 go_wp2
 clear hd hd2 hd3
 go_loopw [5] (fun i wr=>∃k:Nat,k≤m3∧i= .int .i64 k∧Hid ((gs.take k).any (fun g=>!groOk m1 g)=false)∧Hid (Below w1.heap.size w1 wr)) (fun i _=>m3-(intOf i).toNat)
 case atStart=>exact⟨0,by omega,rfl,by simp[Hid],HB2.out⟩
 case round=>
  obtain⟨k,hk,rfl,HT,HB⟩:=hrel
  have p0:=(HB.out.cell blt).trans q0
  have p1:=(HB.out.cell blt).trans q1
  by_cases hlt:k<m3
  · have hltI:(k:Int)<(m3:Int):=by omega
    have hkx:k<gs.length:=by rw[HN3.out];exact hlt
    obtain⟨b,off,rfl,hbs,hcs⟩:=HA.out (by omega)
    have hcw:=fun(r:Nat) (u:Value) (hu:(groE (gs[k]?.getD nilG))[r]?= some u)=>(HB.out.cell (p:=⟨b,off+k*6+r,none⟩) (Nat.lt_of_lt_of_le hbs HBX.out.size)).trans ((HBX.out.cell hbs).trans (hcs k hlt r u hu))
    have HNK:=Lib.hid (HNO.out k hkx)
    have HMK:=Lib.hid (HMO.out k hkx HT.out)
    have HD:=Lib.hid (fun w=>l10Demand_any a1 a2 m1 c1 m2 c2 (gs[k]?.getD nilG).d w (by omega))
    have HV:=Lib.hid (show groOk m1 (gs[k]?.getD nilG)=(demOk (gs[k]?.getD nilG).d m1&&inB (gs[k]?.getD nilG).s 0 (gs[k]?.getD nilG).e&&decide ((gs[k]?.getD nilG).e<8)) from rfl)
    have c0:=hcw 0 _ rfl
    have c1:=hcw 1 _ rfl
    have c2:=hcw 2 _ rfl
    have c3:=hcw 3 _ rfl
    have c4:=hcw 4 _ rfl
    have c5:=hcw 5 _ rfl
    simp only[Nat.add_zero] at c0
    clear hcw hcs hkx
    unfold demV at HD
    generalize gs[k]?.getD nilG=g at *
    have j0:=rg c0
    have j1:=rg c1
    have j2:=rg c2
    have j3:=rg c3
    have j4:=rg c4
    have j5:=rg c5
    have j6:=rg p0
    have j7:=rg p1
    clear c0 c1 c2 c3 c4 c5
    cases h1:demOk g.d m1
    · have HE:=Lib.hid (HNK.out (by rw[HV.out,h1];rfl))
      rw[h1] at HD
      clear h1 HV HNK HMK
      go_wp2
      clear p0 p1
      refine wp_region_quiet_below (by kernel_rfl) (by kernel_rfl) ?_
      repeat (go_big_quiet_step (first | (go_at_call 127;exact Calls.regrown_of (HD.out _)) | (go_at_call 77;exact rg_same (l1In_any _ _ _ _))))
      refine wpQuiet_nil ?_
      rintro _ ⟨⟨dq,osq⟩,rfl⟩
      go_wp2
      go_ret
      exact⟨by rw[HF.out,HE.out];rfl,HBX.out.trans ((HB.out.mono HBX.out.size).trans ((below_regrown _ dq osq).mono (Nat.le_trans HBX.out.size HB.out.size)))⟩
    cases h2:inB g.s 0 g.e
    · have HE:=Lib.hid (HNK.out (by rw[HV.out,h2];simp))
      rw[h1] at HD
      clear h1 HV HNK HMK
      go_wp2
      clear p0 p1
      refine wp_region_quiet_below (by kernel_rfl) (by kernel_rfl) ?_
      repeat (go_big_quiet_step (first | (go_at_call 127;exact Calls.regrown_of (HD.out _)) | (go_at_call 77;exact rg_same (l1In_any _ _ _ _))))
      refine wpQuiet_nil ?_
      rintro _ ⟨⟨dq,osq⟩,rfl⟩
      go_wp2
      go_ret
      exact⟨by rw[HF.out,HE.out];rfl,HBX.out.trans ((HB.out.mono HBX.out.size).trans ((below_regrown _ dq osq).mono (Nat.le_trans HBX.out.size HB.out.size)))⟩
    rw[h1] at HD
    by_cases h8:g.e<8
    · have hd8:decide (8≤g.e)=false:=decide_eq_false (by omega)
      have HS:=Lib.hid (HMK.out (by rw[HV.out,h1,h2,decide_eq_true h8];rfl))
      clear h1 HV HNK HMK h8
      go_wp2
      clear p0 p1
      refine wp_region_quiet_below (by kernel_rfl) (by kernel_rfl) ?_
      repeat (go_big_quiet_step (first | (go_at_call 127;exact Calls.regrown_of (HD.out _)) | (go_at_call 77;exact rg_same (l1In_any _ _ _ _))))
      refine wpQuiet_nil ?_
      rintro _ ⟨⟨dq,osq⟩,rfl⟩
      go_wp2
      go_roundw
      case rel=>exact⟨k+1,hlt,by go_num,HS.out,HB.out.trans ((below_regrown _ dq osq).mono HB.out.size)⟩
      case measure=>simp[intOf];omega
    · have hd8:decide (8≤g.e)=true:=decide_eq_true (by omega)
      have HE:=Lib.hid (HNK.out (by rw[HV.out,decide_eq_false h8];simp))
      clear h1 HV HNK HMK h8
      go_wp2
      clear p0 p1
      refine wp_region_quiet_below (by kernel_rfl) (by kernel_rfl) ?_
      repeat (go_big_quiet_step (first | (go_at_call 127;exact Calls.regrown_of (HD.out _)) | (go_at_call 77;exact rg_same (l1In_any _ _ _ _))))
      refine wpQuiet_nil ?_
      rintro _ ⟨⟨dq,osq⟩,rfl⟩
      go_wp2
      go_ret
      exact⟨by rw[HF.out,HE.out];rfl,HBX.out.trans ((HB.out.mono HBX.out.size).trans ((below_regrown _ dq osq).mono (Nat.le_trans HBX.out.size HB.out.size)))⟩
  · obtain rfl:m3=k:=by omega
    have hall:=HT.out
    rw[←HN3.out,List.take_length] at hall
    have HE:=Lib.hid hall
    clear hall
    go_wp2
    go_ret
    exact⟨by rw[HF.out,HE.out];rfl,HBX.out.trans (HB.out.mono HBX.out.size)⟩
def mkGro (q:Int):Gro:=⟨⟨q,q+1,q+1+1,q+1+1+1⟩,q+1+1+1+1,q+1+1+1+1+1⟩
theorem szGrowthS_any (v:Value) (zs:List Gro) (l:Int) (w:World) (h:Rwt w (flt 6 groE zs) v) (h0:0≤l) (h1:l≤1048576):
 Calls Tryz.prog 14 #[v,.int .i64 l] w fun e w'=>e= .returned (.int .i64 (if l<zs.length then -1 else l-zs.length))∧w=w':=by
 obtain⟨a,n,cap,rfl,HN,hla,_⟩:=flt_opnw (m:=6) (enc:=groE) (fun _=>rfl) (by omega) nilG h
 rw[HN.out]
 clear h
 by_cases hc:l-n<0
 · have hb:decide (l-n<0)=true:=by simpa using hc
   have e:(if l<(n:Int) then(-1:Int) else l-n)= -1:=if_pos (by omega)
   rw[e]
   go_enter Tryz.func14,Tryz.ntmps14
   go_wp2
   go_ret
   exact⟨rfl,rfl⟩
 · have hb:decide (l-n<0)=false:=by simpa using hc
   have e:(if l<(n:Int) then(-1:Int) else l-n)=l-n:=if_neg (by omega)
   rw[e]
   go_enter Tryz.func14,Tryz.ntmps14
   go_wp2
   go_ret
   exact⟨rfl,rfl⟩
theorem toDemand_any (z:Dem) (w:World):
 Calls Tryz.prog 110 #[demV z] w fun e w'=>e= .returned (demV z)∧Below w.heap.size w w':=by
 unfold demV
 go_enter Tryz.func110,Tryz.ntmps110
 go_wp2
 exact bodyPost_ret (v:= .agg #[.int .i64 z.a,.int .i64 z.b,.int .i64 z.r,.int .i64 z.c]) (by simp[results,Tryz.results110,go_sem]) rfl ⟨rfl,(((Below.refl _ _).alloc (Nat.le_refl _) _).alloc (by simp) _).alloc (by simp;omega) _⟩
theorem eqDemand_same (z:Dem) (w:World):
 Calls Tryz.prog 120 #[demV z,demV z] w fun e w'=>e= .returned (.bool true)∧Below w.heap.size w w':=by
 have n0:(z.a != z.a)=false:=by simp
 have n1:(z.b != z.b)=false:=by simp
 have n2:(z.r != z.r)=false:=by simp
 have n3:(z.c != z.c)=false:=by simp
 have HB:=Lib.hid (((Below.refl w.heap.size w).alloc (Nat.le_refl _) (.cells #[.int .i64 z.a,.int .i64 z.b,.int .i64 z.r,.int .i64 z.c] 53)).alloc (by simp) (.cells #[.int .i64 z.a,.int .i64 z.b,.int .i64 z.r,.int .i64 z.c] 53))
 unfold demV
 go_enter Tryz.func120,Tryz.ntmps120
 go_wp2
 go_ret
 exact⟨rfl,HB.out⟩
theorem toGrowth_any (z:Gro) (w:World):
 Calls Tryz.prog 63 #[groV z] w fun e w'=>e= .returned (groV z)∧Below w.heap.size w w':=by
 have HS:=Lib.hid (fun w=>toDemand_any (z.d) w)
 obtain⟨W,hW⟩:∃W,W=(((w.alloc (.cells #[.int .i64 z.d.a,.int .i64 z.d.b,.int .i64 z.d.r,.int .i64 z.d.c,.int .i64 z.s,.int .i64 z.e] 107)).alloc (.cells #[.int .i64 0,.int .i64 0,.int .i64 0,.int .i64 0,.int .i64 0,.int .i64 0] 55)).alloc (.cells #[.int .i64 0,.int .i64 0,.int .i64 0,.int .i64 0,.int .i64 0,.int .i64 0] 55)):=⟨_,rfl⟩
 have h1:=(Below.refl w.heap.size w).alloc (Nat.le_refl _) (.cells #[.int .i64 z.d.a,.int .i64 z.d.b,.int .i64 z.d.r,.int .i64 z.d.c,.int .i64 z.s,.int .i64 z.e] 107)
 have h2:=h1.alloc h1.size (.cells #[.int .i64 0,.int .i64 0,.int .i64 0,.int .i64 0,.int .i64 0,.int .i64 0] 55)
 have h3:=h2.alloc h2.size (.cells #[.int .i64 0,.int .i64 0,.int .i64 0,.int .i64 0,.int .i64 0,.int .i64 0] 55)
 have k1:=heap_alloc_new w (.cells #[.int .i64 z.d.a,.int .i64 z.d.b,.int .i64 z.d.r,.int .i64 z.d.c,.int .i64 z.s,.int .i64 z.e] 107)
 have k2:=heap_alloc_new (w.alloc (.cells #[.int .i64 z.d.a,.int .i64 z.d.b,.int .i64 z.d.r,.int .i64 z.d.c,.int .i64 z.s,.int .i64 z.e] 107)) (.cells #[.int .i64 0,.int .i64 0,.int .i64 0,.int .i64 0,.int .i64 0,.int .i64 0] 55)
 have k3:=heap_alloc_new ((w.alloc (.cells #[.int .i64 z.d.a,.int .i64 z.d.b,.int .i64 z.d.r,.int .i64 z.d.c,.int .i64 z.s,.int .i64 z.e] 107)).alloc (.cells #[.int .i64 0,.int .i64 0,.int .i64 0,.int .i64 0,.int .i64 0,.int .i64 0] 55)) (.cells #[.int .i64 0,.int .i64 0,.int .i64 0,.int .i64 0,.int .i64 0,.int .i64 0] 55)
 have k1':=(heap_alloc_old _ (.cells #[.int .i64 0,.int .i64 0,.int .i64 0,.int .i64 0,.int .i64 0,.int .i64 0] 55) (Array.getElem?_eq_some_iff.1 ((heap_alloc_old _ (.cells #[.int .i64 0,.int .i64 0,.int .i64 0,.int .i64 0,.int .i64 0,.int .i64 0] 55) (Array.getElem?_eq_some_iff.1 k1).1).trans k1)).1).trans ((heap_alloc_old _ (.cells #[.int .i64 0,.int .i64 0,.int .i64 0,.int .i64 0,.int .i64 0,.int .i64 0] 55) (Array.getElem?_eq_some_iff.1 k1).1).trans k1)
 have k2':=(heap_alloc_old _ (.cells #[.int .i64 0,.int .i64 0,.int .i64 0,.int .i64 0,.int .i64 0,.int .i64 0] 55) (Array.getElem?_eq_some_iff.1 k2).1).trans k2
 rw[show(w.alloc (.cells #[.int .i64 z.d.a,.int .i64 z.d.b,.int .i64 z.d.r,.int .i64 z.d.c,.int .i64 z.s,.int .i64 z.e] 107)).heap.size=w.heap.size+1 by simp] at k2'
 rw[show((w.alloc (.cells #[.int .i64 z.d.a,.int .i64 z.d.b,.int .i64 z.d.r,.int .i64 z.d.c,.int .i64 z.s,.int .i64 z.e] 107)).alloc (.cells #[.int .i64 0,.int .i64 0,.int .i64 0,.int .i64 0,.int .i64 0,.int .i64 0] 55)).heap.size=w.heap.size+1+1 by simp] at k3
 rw[←hW] at h3 k1' k2' k3
 have HW:=Lib.hid hW
 have HB:=Lib.hid h3
 have K1:=Lib.hid k1'
 have K2:=Lib.hid k2'
 have K3:=Lib.hid k3
 unfold groV
 unfold demV at HS
 clear h1 h2 h3 k1 k2 k3 k1' k2' hW
 go_enter Tryz.func63,Tryz.ntmps63
 go_wp2_with fail
 rw[←HW.out]
 refine(HS.out _).mono ?_
 rintro e w2 ⟨rfl,b2⟩
 have m1:=kept_o' K1.out b2
 have x4:=blkc m1 (j:=4) (u:= .int .i64 z.s) rfl
 have x5:=blkc m1 (j:=5) (u:= .int .i64 z.e) rfl
 have M1:=Lib.hid m1
 have M2:=Lib.hid (kept_o' K2.out b2)
 have M3:=Lib.hid (kept_o' K3.out b2)
 have HB2:=Lib.hid (HB.out.trans (b2.mono HB.out.size))
 clear b2 m1 HW
 go_wp2_with (first
  | ((show wpList _ _ _ (⟨none,.store 53 _ _,_,_,_,_⟩::_) _ _);refine wpList_stx rfl 53 _ _ rfl (w.heap.size+1+1) 0 [.int .i64 z.d.a,.int .i64 z.d.b,.int .i64 z.d.r,.int .i64 z.d.c] rfl rfl M3.out (by simp) (by kernel_rfl) (by simp[Value.oneCell']) ?_;intro w3 hs;have n1:=hs.keep (by omega) M1.out;have N2:=Lib.hid (hs.keep (by omega) M2.out);have n3:=hs.blk;have HB3:=Lib.hid (hs.below w.heap.size w (by omega) HB2.out);clear hs x4 x5;have y4:=blkc n1 (j:=4) (u:= .int .i64 z.s) rfl;have y5:=blkc n1 (j:=5) (u:= .int .i64 z.e) rfl;have N1:=Lib.hid n1;have N3:=Lib.hid n3;clear n1 n3)
  | ((show wpList _ _ _ (⟨none,.store 3 (.tmp 10) _,_,_,_,_⟩::_) _ _);refine wpList_st1 rfl 3 _ _ rfl (w.heap.size+1+1) 4 (.int .i64 z.s) rfl rfl N3.out (by simp[putA]) (by kernel_rfl) ⟨rfl,rfl⟩ ?_;intro w3 hs;have n1:=hs.keep (by omega) N1.out;have N2:=Lib.hid (hs.keep (by omega) N2.out);have n3:=hs.blk;have HB3:=Lib.hid (hs.below w.heap.size w (by omega) HB3.out);clear hs y4 y5;have y4:=blkc n1 (j:=4) (u:= .int .i64 z.s) rfl;have y5:=blkc n1 (j:=5) (u:= .int .i64 z.e) rfl;have N1:=Lib.hid n1;have N3:=Lib.hid n3;clear n1 n3)
  | ((show wpList _ _ _ (⟨none,.store 3 (.tmp 13) _,_,_,_,_⟩::_) _ _);refine wpList_st1 rfl 3 _ _ rfl (w.heap.size+1+1) 5 (.int .i64 z.e) rfl rfl N3.out (by simp[putA]) (by kernel_rfl) ⟨rfl,rfl⟩ ?_;intro w3 hs;have n1:=hs.keep (by omega) N1.out;have N2:=Lib.hid (hs.keep (by omega) N2.out);have n3:=hs.blk;have HB3:=Lib.hid (hs.below w.heap.size w (by omega) HB3.out);clear hs y4 y5;have y4:=blkc n1 (j:=4) (u:= .int .i64 z.s) rfl;have y5:=blkc n1 (j:=5) (u:= .int .i64 z.e) rfl;have N1:=Lib.hid n1;have N3:=Lib.hid n3;clear n1 n3)
  | ((show wpList _ _ _ (⟨none,.store 55 _ _,_,_,_,_⟩::_) _ _);refine wpList_stx rfl 55 _ _ rfl (w.heap.size+1) 0 [.int .i64 z.d.a,.int .i64 z.d.b,.int .i64 z.d.r,.int .i64 z.d.c,.int .i64 z.s,.int .i64 z.e] rfl rfl N2.out (by simp) (by kernel_rfl) (by simp[Value.oneCell']) ?_;intro w4 hs;have n2:=hs.blk;have HB4:=Lib.hid (hs.below w.heap.size w (by omega) HB3.out);clear hs;have r0:=blkc n2 (j:=0) (u:= .int .i64 z.d.a) rfl;have r1:=blkc n2 (j:=1) (u:= .int .i64 z.d.b) rfl;have r2:=blkc n2 (j:=2) (u:= .int .i64 z.d.r) rfl;have r3:=blkc n2 (j:=3) (u:= .int .i64 z.d.c) rfl;have r4:=blkc n2 (j:=4) (u:= .int .i64 z.s) rfl;have r5:=blkc n2 (j:=5) (u:= .int .i64 z.e) rfl)
  | ((show wpList _ _ _ (⟨some _,.load 55 _,_,_,_,_⟩::_) _ _);refine wpList_ldx rfl 55 _ rfl (w.heap.size+1+1) 0 rfl [.int .i64 z.d.a,.int .i64 z.d.b,.int .i64 z.d.r,.int .i64 z.d.c,.int .i64 z.s,.int .i64 z.e] N3.out rfl _ (by exact Tryz.underlying55) rfl (by kernel_rfl) ?_))
 exact bodyPost_ret (v:= .agg #[.int .i64 z.d.a,.int .i64 z.d.b,.int .i64 z.d.r,.int .i64 z.d.c,.int .i64 z.s,.int .i64 z.e]) (by simp[results,Tryz.results63,go_sem,r0,r1,r2,r3,r4,r5]) rfl ⟨rfl,HB4.out⟩
theorem eqGrowth_same (z:Gro) (w:World):
 Calls Tryz.prog 69 #[groV z,groV z] w fun e w'=>e= .returned (.bool true)∧Below w.heap.size w w':=by
 have n0:(z.s != z.s)=false:=by simp
 have n1:(z.e != z.e)=false:=by simp
 have HB:=Lib.hid (((Below.refl w.heap.size w).alloc (Nat.le_refl _) (.cells #[.int .i64 z.d.a,.int .i64 z.d.b,.int .i64 z.d.r,.int .i64 z.d.c,.int .i64 z.s,.int .i64 z.e] 55)).alloc (by simp) (.cells #[.int .i64 z.d.a,.int .i64 z.d.b,.int .i64 z.d.r,.int .i64 z.d.c,.int .i64 z.s,.int .i64 z.e] 55))
 have HS:=Lib.hid (fun w=>eqDemand_same (z.d) w)
 unfold groV
 unfold demV at HS
 go_enter Tryz.func69,Tryz.ntmps69
 go_wp2_with fail
 refine(HS.out _).mono ?_
 rintro e w2 ⟨rfl,b2⟩
 obtain⟨hc,hf⟩:=bcell b2
 have HB2:=Lib.hid (HB.out.trans (b2.mono HB.out.size))
 clear b2
 go_wp2
 go_ret
 exact⟨rfl,HB2.out⟩
theorem Tryz.infoGrowth:(Tryz.prog.info? 55).map (fun i=>(i.zero,i.size,i.bytes))=some (some (.agg #[.int .i64 0,.int .i64 0,.int .i64 0,.int .i64 0,.int .i64 0,.int .i64 0]),6,48):=by kernel_rfl
theorem toGrowthS_any (v:Value) (zs:List Gro) (w:World) (h:Rwt w (flt 6 groE zs) v) (hr:zs.length≤1048576):
 Calls Tryz.prog 18 #[v] w fun e w'=>∃v',e= .returned v'∧Ofr w' w.heap.size (flt 6 groE zs) v'∧Below w.heap.size w w':=by
 obtain⟨i0,hi,hz0,hz1,hz2⟩:=info_parts Tryz.infoGrowth
 obtain⟨a,n,cap,rfl,HN,hn,ha⟩:=flt_opnw (m:=6) (enc:=groE) (fun _=>rfl) (by omega) nilG h
 have HA:=Lib.hid ha
 have HL:=Lib.hid (fun k hk=>fillG_len nilG zs n k HN.out hk)
 have HST:=Lib.hid (fun k hk=>fillG_step nilG zs n k HN.out hk)
 have HAL:=Lib.hid (fillG_all nilG zs n HN.out)
 rw[HN.out] at hr
 clear ha h
 go_enter Tryz.func18,Tryz.ntmps18
 go_wp2_with (refine wpList_make_full _ rfl _ _ 39 rfl w.heap.size 55 i0 (.agg #[.int .i64 0,.int .i64 0,.int .i64 0,.int .i64 0,.int .i64 0,.int .i64 0]) 6 Tryz.underlying39 hi hz0 hz1 _ _ _ _ n rfl rfl rfl rfl (by rw[hz2];omega) (by unfold maxLen;omega) (Nat.le_refl _) ?_;intro w1 hown1 hgrow1)
 have HO1:=Lib.hid (show Ofr w1 w.heap.size (flt 6 groE (fillG nilG zs n 0)) (.slice (some ⟨w.heap.size,0,none⟩) n n) from by
  rw[fillG_zero]
  exact made_flat (enc:=groE) (fun _=>rfl) (by omega) nilG rfl hown1)
 have HB1:=Lib.hid (show Below w.heap.size w w1 from(Below.refl _ _).grown hgrow1 (Nat.le_refl _) (by simp))
 clear hown1 hgrow1
 go_loopw [4] (fun i wr=>∃k:Nat,k≤n∧i= .int .i64 k∧Hid (Ofr wr w.heap.size (flt 6 groE (fillG nilG zs n k)) (.slice (some ⟨w.heap.size,0,none⟩) n n))∧Hid (Below w.heap.size w wr)) (fun i _=>n-(intOf i).toNat)
 case atStart=>exact⟨0,by omega,rfl,HO1.out,HB1.out⟩
 case round=>
  obtain⟨k,hk,rfl,HO,HB⟩:=hrel
  by_cases hlt:k<n
  · obtain⟨b,off,rfl,hbs,hcs⟩:=HA.out (by omega)
    have hltI:(k:Int)<(n:Int):=by omega
    have d0:=(HB.out.cell (p:=⟨b,off+k*6+0,none⟩) hbs).trans (hcs k hlt 0 _ rfl)
    have d1:=(HB.out.cell (p:=⟨b,off+k*6+1,none⟩) hbs).trans (hcs k hlt 1 _ rfl)
    have d2:=(HB.out.cell (p:=⟨b,off+k*6+2,none⟩) hbs).trans (hcs k hlt 2 _ rfl)
    have d3:=(HB.out.cell (p:=⟨b,off+k*6+3,none⟩) hbs).trans (hcs k hlt 3 _ rfl)
    have d4:=(HB.out.cell (p:=⟨b,off+k*6+4,none⟩) hbs).trans (hcs k hlt 4 _ rfl)
    have d5:=(HB.out.cell (p:=⟨b,off+k*6+5,none⟩) hbs).trans (hcs k hlt 5 _ rfl)
    simp only[Nat.add_zero] at d0
    have HS:=Lib.hid (fun w=>toGrowth_any (zs[k]?.getD nilG) w)
    have HSK:=Lib.hid (HST.out k hlt)
    have HLK:=Lib.hid (HL.out k (by omega))
    clear hcs HO1 HB1
    unfold groV at HS
    generalize zs[k]?.getD nilG=z at *
    go_wp2_with fail
    refine(HS.out _).mono ?_
    rintro e w2 ⟨rfl,b2⟩
    obtain⟨g,o,cp,ev,hg1,hg2,hcc,hfz,hof⟩:=flt_put (enc:=groE) (m:=6) (fun _=>rfl) (by omega) (HO.out.below b2) (Nat.le_trans HB.out.size b2.size) (k:=k) (by rw[HLK.out];exact hlt) z
    simp only[Value.slice.injEq,Option.some.injEq,Addr.mk.injEq,and_true] at ev
    obtain⟨⟨rfl,rfl⟩,-,rfl⟩:=ev
    rw[HSK.out] at hof
    simp only[Nat.zero_add] at hcc hof
    obtain⟨q0,c0⟩:=hcc 0 (by omega)
    obtain⟨q1,c1⟩:=hcc 1 (by omega)
    obtain⟨q2,c2⟩:=hcc 2 (by omega)
    obtain⟨q3,c3⟩:=hcc 3 (by omega)
    obtain⟨q4,c4⟩:=hcc 4 (by omega)
    obtain⟨q5,c5⟩:=hcc 5 (by omega)
    simp only[Nat.add_zero] at c0
    have f0:=hfz (k*6+0)
    have f1:=hfz (k*6+1)
    have f2:=hfz (k*6+2)
    have f3:=hfz (k*6+3)
    have f4:=hfz (k*6+4)
    have f5:=hfz (k*6+5)
    simp only[Nat.add_zero] at f0
    have HB2:=Lib.hid (setRow_below (Nat.le_refl w.heap.size) (groE z) w2 (k*6) (HB.out.trans (b2.mono HB.out.size)))
    simp only[setRow,groE,Nat.add_assoc,Nat.reduceAdd] at hof HB2
    have HOF:=Lib.hid hof
    clear hof b2 hfz hcc
    go_wp2
    go_roundw
    case rel=>exact⟨k+1,by omega,by go_num,HOF.out,HB2.out⟩
    case measure=>simp[intOf];omega
  · obtain rfl:k=n:=by omega
    have hof:=HO.out
    rw[HAL.out] at hof
    have HOF:=Lib.hid hof
    go_wp2
    go_ret
    exact⟨_,rfl,HOF.out,HB.out⟩
theorem eqGrowthS_same (va vb:Value) (zs:List Gro) (w:World) (ha:Rdt w (flt 6 groE zs) va) (hb:Rdt w (flt 6 groE zs) vb):
 Calls Tryz.prog 22 #[va,vb] w fun e w'=>e= .returned (.bool true)∧Below w.heap.size w w':=by
 obtain⟨a,n,ca,rfl,HN,_,hn,HA⟩:=flt_opn (m:=6) (enc:=groE) (fun _=>rfl) (by omega) nilG ha
 obtain⟨b,n2,cb,rfl,HM,_,_,HBB⟩:=flt_opn (m:=6) (enc:=groE) (fun _=>rfl) (by omega) nilG hb
 obtain rfl:n=n2:=HN.out.symm.trans HM.out
 have HA:=Lib.hid HA
 have HBB:=Lib.hid HBB
 clear HM ha hb
 have hne:((n:Int) != (n:Int))=false:=by simp
 go_enter Tryz.func22,Tryz.ntmps22
 go_wp2
 go_loopw [5] (fun i wr=>∃k:Nat,k≤n∧i= .int .i64 k∧Hid (Below w.heap.size w wr)) (fun i _=>n-(intOf i).toNat)
 case atStart=>exact⟨0,by omega,rfl,Below.refl _ _⟩
 case round=>
  obtain⟨k,hk,rfl,HB⟩:=hrel
  by_cases hlt:k<n
  · obtain⟨g1,o1,rfl,hg1,hc1⟩:=HA.out (by omega)
    obtain⟨g2,o2,rfl,hg2,hc2⟩:=HBB.out (by omega)
    have hltI:(k:Int)<(n:Int):=by omega
    have x0:=rg ((HB.out.cell (p:=⟨g1,o1+k*6+0,none⟩) hg1).trans (hc1 k hlt 0 _ rfl))
    have y0:=rg ((HB.out.cell (p:=⟨g2,o2+k*6+0,none⟩) hg2).trans (hc2 k hlt 0 _ rfl))
    have x1:=rg ((HB.out.cell (p:=⟨g1,o1+k*6+1,none⟩) hg1).trans (hc1 k hlt 1 _ rfl))
    have y1:=rg ((HB.out.cell (p:=⟨g2,o2+k*6+1,none⟩) hg2).trans (hc2 k hlt 1 _ rfl))
    have x2:=rg ((HB.out.cell (p:=⟨g1,o1+k*6+2,none⟩) hg1).trans (hc1 k hlt 2 _ rfl))
    have y2:=rg ((HB.out.cell (p:=⟨g2,o2+k*6+2,none⟩) hg2).trans (hc2 k hlt 2 _ rfl))
    have x3:=rg ((HB.out.cell (p:=⟨g1,o1+k*6+3,none⟩) hg1).trans (hc1 k hlt 3 _ rfl))
    have y3:=rg ((HB.out.cell (p:=⟨g2,o2+k*6+3,none⟩) hg2).trans (hc2 k hlt 3 _ rfl))
    have x4:=rg ((HB.out.cell (p:=⟨g1,o1+k*6+4,none⟩) hg1).trans (hc1 k hlt 4 _ rfl))
    have y4:=rg ((HB.out.cell (p:=⟨g2,o2+k*6+4,none⟩) hg2).trans (hc2 k hlt 4 _ rfl))
    have x5:=rg ((HB.out.cell (p:=⟨g1,o1+k*6+5,none⟩) hg1).trans (hc1 k hlt 5 _ rfl))
    have y5:=rg ((HB.out.cell (p:=⟨g2,o2+k*6+5,none⟩) hg2).trans (hc2 k hlt 5 _ rfl))
    simp only[Nat.add_zero] at x0 y0
    have HQ:=Lib.hid (fun w=>eqGrowth_same (zs[k]?.getD nilG) w)
    unfold groV at HQ
    generalize zs[k]?.getD nilG=z at *
    clear hc1 hc2
    go_wp2
    refine wp_region_quiet_below (by kernel_rfl) (by kernel_rfl) ?_
    repeat (go_big_quiet_step (first | (go_at_call 69;exact Calls.regrown_of (HQ.out _))))
    refine wpQuiet_nil ?_
    rintro _ ⟨⟨dq,osq⟩,rfl⟩
    go_wp2
    go_roundw
    case rel=>exact⟨k+1,by omega,by go_num,HB.out.trans ((below_regrown _ dq osq).mono HB.out.size)⟩
    case measure=>simp[intOf];omega
  · obtain rfl:k=n:=by omega
    go_wp2
    go_ret
    exact⟨rfl,HB.out⟩
theorem markGrowthS_any (v:Value) (zs:List Gro) (fp:List Nat) (q:Int) (w:World) (h:Odt w (flt 6 groE zs) v fp) (hn:fp.Nodup) (hb:zs.length≤4194304) (hq:0≤q) (hq2:q≤1125899906842624):
 Calls Tryz.prog 36 #[v,.int .i64 q] w fun e w'=>e= .returned (.int .i64 (q+6*(zs.length:Int)))∧Odt w' (flt 6 groE ((List.range zs.length).map fun i:Nat=>mkGro (q+6*(i:Int)))) v fp∧Wr w w' fp:=by
 obtain⟨a,n,cap,rfl,HN,_,hnl,-⟩:=flt_opn (m:=6) (enc:=groE) (fun _=>rfl) (by omega) nilG h.rd
 obtain⟨f,hf⟩:∃f:Nat→Gro,f=fun i:Nat=>mkGro (q+6*(i:Int)):=⟨_,rfl⟩
 have HFE:=Lib.hid (fun i=>congrFun hf i)
 rw[←hf,HN.out]
 rw[HN.out] at hb
 clear hf
 have HST:=Lib.hid (fun k (h:k<n)=>mkG_step f zs k (by rw[HN.out];exact h))
 have HLN:=Lib.hid (fun k (h:k≤n)=>(mkG_len f zs k (by rw[HN.out];exact h)).trans HN.out)
 have HALL:=Lib.hid (mkG_all f zs n HN.out)
 have HH:=Lib.hid h
 clear h
 go_enter Tryz.func36,Tryz.ntmps36
 go_wp2
 go_loopw [1,5] (fun x i wr=>∃k:Nat,k≤n∧i= .int .i64 k∧x= .int .i64 (q+6*(k:Int))∧Hid (Odt wr (flt 6 groE (mkG f zs k)) (.slice a n cap) fp)∧Hid (Wr w wr fp)) (fun _ i _=>n-(intOf i).toNat)
 case atStart=>exact⟨0,by omega,rfl,int_eq (by simp),by rw[mkG_zero];exact HH.out,Wr.refl _ _⟩
 case round=>
  obtain⟨k,hk,rfl,rfl,HO,HW⟩:=hrel
  by_cases hlt:k<n
  · have hltI:(k:Int)<(n:Int):=by omega
    obtain⟨g,off,rfl,hcc,hfz,hset⟩:=flt_mark (enc:=groE) (m:=6) (fun _=>rfl) (by omega) HO.out hn (k:=k) (by rw[HLN.out k (by omega)];exact hlt)
    obtain⟨s1,s2⟩:=hset (f k)
    rw[HST.out k hlt] at s1
    have hfk:=HFE.out k
    obtain⟨p,hp⟩:∃p:Int,p=q+6*(k:Int):=⟨_,rfl⟩
    have hp1:0≤p:=by omega
    have hp2:p≤1125899940397056:=by omega
    rw[←hp] at hfk ⊢
    have HP:=Lib.hid hp
    clear hp
    rw[hfk] at s1 s2
    simp only[setRow,groE,mkGro,Nat.add_assoc (off+k*6),Nat.reduceAdd] at s1 s2
    have HS1:=Lib.hid s1
    have HS2:=Lib.hid (HW.out.trans s2)
    obtain⟨q0,c0⟩:=hcc 0 (by omega)
    obtain⟨q1,c1⟩:=hcc 1 (by omega)
    obtain⟨q2,c2⟩:=hcc 2 (by omega)
    obtain⟨q3,c3⟩:=hcc 3 (by omega)
    obtain⟨q4,c4⟩:=hcc 4 (by omega)
    obtain⟨q5,c5⟩:=hcc 5 (by omega)
    have f0:=hfz (off+k*6+0)
    have f1:=hfz (off+k*6+1)
    have f2:=hfz (off+k*6+2)
    have f3:=hfz (off+k*6+3)
    have f4:=hfz (off+k*6+4)
    have f5:=hfz (off+k*6+5)
    simp only[Nat.add_zero] at c0 f0
    clear s1 s2 hset hcc hfz hfk
    go_wp2
    go_roundw
    case rel=>exact⟨k+1,by omega,by go_num,int_eq (by rw[HP.out];omega),HS1.out,HS2.out⟩
    case measure=>simp[intOf];omega
  · obtain rfl:k=n:=by omega
    have ho:=HO.out
    rw[HALL.out] at ho
    have HOF:=Lib.hid ho
    clear HO ho
    go_wp2
    go_ret
    exact⟨rfl,HOF.out,HW.out⟩
theorem szGrowthS_Q (v:Value) (zs:List Gro) (l:Int) (w:World) (h:Rwt w (flt 6 groE zs) v) (h0:0≤l) (h1:l≤1048576):Calls Tryz.prog 14 #[v,.int .i64 l] w (SzQ zs.length l w):=by
 refine(szGrowthS_any v zs l w h h0 h1).mono ?_
 rintro e w' ⟨rfl,rfl⟩
 by_cases hx:l<(zs.length:Int)
 · rw[if_pos hx];exact⟨_,rfl,Below.refl _ _,.inl ⟨rfl,hx⟩⟩
 · rw[if_neg hx];exact⟨_,rfl,Below.refl _ _,.inr ⟨rfl,by omega⟩⟩
theorem toGrowthS_P (v:Value) (zs:List Gro) (w:World) (h:Rwt w (flt 6 groE zs) v) (hr:zs.length≤1048576):Calls Tryz.prog 18 #[v] w (ToP (fun w' v' fp=>Odt w' (flt 6 groE zs) v' fp) w):=by
 refine(toGrowthS_any v zs w h hr).mono ?_
 rintro e w' ⟨v',rfl,⟨fp,h1,h2,h3⟩,hb⟩
 exact⟨v',fp,rfl,h1,h2,h3,hb⟩
theorem markGrowthS_N (v:Value) (zs:List Gro) (fp:List Nat) (q:Nat) (w:World) (h:Odt w (flt 6 groE zs) v fp) (hn:fp.Nodup) (hb:zs.length≤1048576) (hq:0<q) (hq2:q≤1099511627776):
 Calls Tryz.prog 36 #[v,.int .i64 (q:Int)] w fun e w'=>e= .returned (.int .i64 ((q+6*zs.length:Nat):Int))∧Odt w' (flt 6 groE ((List.range zs.length).map fun i:Nat=>mkGro ((q:Int)+6*(i:Int)))) v fp∧Wr w w' fp:=by
 refine(markGrowthS_any v zs fp q w h hn (by omega) (by omega) (by omega)).mono ?_
 rintro e w' ⟨rfl,h1,h2⟩
 exact⟨ret_int (by omega),h1,h2⟩
open Go.RowKit Go.WideShapes
section
variable {H : Type} {enc : TypeId × Value → H} {P : Program} {w : World}
def Reads (w:World) (cs:List Value) (ds:List Dt):Prop:=cs.length=ds.length∧ ∀(r:Nat) (d:Dt),ds[r]?= some d→ ∃u,cs[r]?= some u∧Rwt w d u
theorem Reads.join {cs:List Value} {A B:List Dt} {k:Nat} (hk:k≤cs.length) (hA:Reads w (cs.take k) A) (hB:Reads w (cs.drop k) B):Reads w cs (A++B):=by
 obtain⟨a1,a2⟩:=hA
 obtain⟨b1,b2⟩:=hB
 rw[List.length_take,Nat.min_eq_left hk] at a1
 rw[List.length_drop] at b1
 refine⟨by rw[List.length_append];omega,fun r d hr=> ?_⟩
 by_cases h:r<A.length
 · rw[List.getElem?_append_left h] at hr
   obtain⟨u,h1,h2⟩:=a2 r d hr
   rw[List.getElem?_take] at h1
   split at h1
   · exact⟨u,h1,h2⟩
   · cases h1
 · rw[List.getElem?_append_right (by omega)] at hr
   obtain⟨u,h1,h2⟩:=b2 _ d hr
   rw[List.getElem?_drop,show k+(r-A.length)=r by omega] at h1
   exact⟨u,h1,h2⟩
theorem opens_map' {t:TypeId} {α β:Type} {F:α→List Dt} {G:β→List Dt} (h:Opens enc P w t F) (g:α→β) (e:∀a,G (g a)=F a):Opens enc P w t G:=fun fuel cs x hx=>by
 obtain⟨a,h1,h2⟩:=h fuel cs x hx
 exact⟨g a,by rw[e];exact h1,by rw[e];exact h2⟩
theorem opens_str {t:TypeId} (ht:P.underlying t=some .string):Opens enc P w t (fun s:{s:ByteArray // s.size≤maxLen} =>[.leaf (.string s.1)]):=fun fuel cs x h=>by
 obtain⟨s,rfl,_,hs⟩:=DataW.trod_string ht h
 refine⟨⟨s,hs⟩,rfl,fun r d hr=> ?_⟩
 match r with
 | 0=>simp at hr;subst hr;exact⟨_,rfl,.leaf _⟩
 | r+1=>simp at hr
theorem opens_bool {t:TypeId} (ht:P.underlying t=some .bool):Opens enc P w t (fun b:Bool=>[.leaf (.bool b)]):=fun fuel cs x h=>by
 obtain⟨b,rfl,_⟩:=DataW.trod_bool ht h
 refine⟨b,rfl,fun r d hr=> ?_⟩
 match r with
 | 0=>simp at hr;subst hr;exact⟨_,rfl,.leaf _⟩
 | r+1=>simp at hr
theorem opens_fld {t:TypeId} {α:Type} {F:α→List Dt} (h:Opens enc P w t F) {fuel:Nat} {cs:List Value} {x:DataW H × List MemPlace} (hx:DataW.trod enc P w 0 (fun _=>true) true fuel t cs=some x):∃a,Reads w cs (F a):=h fuel cs x hx
theorem opens_struct2 {t:TypeId} {f0 f1:Field} {α β:Type} {F0:α→List Dt} {F1:β→List Dt} {k0 k1:Nat} (ht:P.underlying t=some (.struct #[f0,f1])) (hC:P.cellsOf t=k0+k1)
 (o0:f0.offset=0) (o1:f1.offset=k0) (c0:P.cellsOf f0.type=k0) (c1:P.cellsOf f1.type=k1)
 (h0:Opens enc P w f0.type F0) (h1:Opens enc P w f1.type F1):Opens enc P w t (fun p:α × β=>F0 p.1++F1 p.2):=fun fuel cs x h=>by
 obtain⟨xs,n,rfl,rfl,hl,hxl,hf⟩:=DataW.trod_struct ht h
 rw[hC] at hl
 have hx2:xs.length=2:=by simpa using hxl
 match xs,hx2 with
 | [y0,y1],_=>
   have g0:=hf 0 f0 rfl
   have g1:=hf 1 f1 rfl
   rw[o0,c0] at g0
   rw[o1,c1] at g1
   obtain⟨a,ra⟩:=opens_fld h0 (show DataW.trod enc P w 0 (fun _=>true) true n f0.type ((cs.drop 0).take k0)=some y0 from g0)
   obtain⟨b,rb⟩:=opens_fld h1 (show DataW.trod enc P w 0 (fun _=>true) true n f1.type ((cs.drop k0).take k1)=some y1 from g1)
   rw[List.drop_zero] at ra
   rw[List.take_of_length_le (by rw[List.length_drop];omega)] at rb
   exact⟨(a,b),Reads.join (by omega) ra rb⟩
theorem opens_struct3' {t:TypeId} {f0 f1 f2:Field} {α β γ:Type} {F0:α→List Dt} {F1:β→List Dt} {F2:γ→List Dt} {k0 k1 k2:Nat} (ht:P.underlying t=some (.struct #[f0,f1,f2])) (hC:P.cellsOf t=k0+(k1+k2))
 (o0:f0.offset=0) (o1:f1.offset=k0) (o2:f2.offset=k0+k1) (c0:P.cellsOf f0.type=k0) (c1:P.cellsOf f1.type=k1) (c2:P.cellsOf f2.type=k2)
 (h0:Opens enc P w f0.type F0) (h1:Opens enc P w f1.type F1) (h2:Opens enc P w f2.type F2):Opens enc P w t (fun p:α × β × γ=>F0 p.1++(F1 p.2.1++F2 p.2.2)):=fun fuel cs x h=>by
 obtain⟨xs,n,rfl,rfl,hl,hxl,hf⟩:=DataW.trod_struct ht h
 rw[hC] at hl
 have hx2:xs.length=3:=by simpa using hxl
 match xs,hx2 with
 | [y0,y1,y2],_=>
   have g0:=hf 0 f0 rfl
   have g1:=hf 1 f1 rfl
   have g2:=hf 2 f2 rfl
   rw[o0,c0] at g0
   rw[o1,c1] at g1
   rw[o2,c2] at g2
   obtain⟨a,ra⟩:=opens_fld h0 (show DataW.trod enc P w 0 (fun _=>true) true n f0.type ((cs.drop 0).take k0)=some y0 from g0)
   obtain⟨b,rb⟩:=opens_fld h1 (show DataW.trod enc P w 0 (fun _=>true) true n f1.type ((cs.drop k0).take k1)=some y1 from g1)
   obtain⟨c,rc⟩:=opens_fld h2 (show DataW.trod enc P w 0 (fun _=>true) true n f2.type ((cs.drop (k0+k1)).take k2)=some y2 from g2)
   rw[List.drop_zero] at ra
   rw[List.take_of_length_le (by rw[List.length_drop];omega)] at rc
   rw[←List.drop_drop] at rc
   exact⟨(a,b,c),Reads.join (by omega) ra (Reads.join (by rw[List.length_drop];omega) rb rc)⟩
theorem opens_struct4' {t:TypeId} {f0 f1 f2 f3:Field} {α β γ δ:Type} {F0:α→List Dt} {F1:β→List Dt} {F2:γ→List Dt} {F3:δ→List Dt} {k0 k1 k2 k3:Nat} (ht:P.underlying t=some (.struct #[f0,f1,f2,f3])) (hC:P.cellsOf t=k0+(k1+(k2+k3)))
 (o0:f0.offset=0) (o1:f1.offset=k0) (o2:f2.offset=k0+k1) (o3:f3.offset=k0+k1+k2) (c0:P.cellsOf f0.type=k0) (c1:P.cellsOf f1.type=k1) (c2:P.cellsOf f2.type=k2) (c3:P.cellsOf f3.type=k3)
 (h0:Opens enc P w f0.type F0) (h1:Opens enc P w f1.type F1) (h2:Opens enc P w f2.type F2) (h3:Opens enc P w f3.type F3):Opens enc P w t (fun p:α × β × γ × δ=>F0 p.1++(F1 p.2.1++(F2 p.2.2.1++F3 p.2.2.2))):=fun fuel cs x h=>by
 obtain⟨xs,n,rfl,rfl,hl,hxl,hf⟩:=DataW.trod_struct ht h
 rw[hC] at hl
 have hx2:xs.length=4:=by simpa using hxl
 match xs,hx2 with
 | [y0,y1,y2,y3],_=>
   have g0:=hf 0 f0 rfl
   have g1:=hf 1 f1 rfl
   have g2:=hf 2 f2 rfl
   have g3:=hf 3 f3 rfl
   rw[o0,c0] at g0
   rw[o1,c1] at g1
   rw[o2,c2] at g2
   rw[o3,c3] at g3
   obtain⟨a,ra⟩:=opens_fld h0 (show DataW.trod enc P w 0 (fun _=>true) true n f0.type ((cs.drop 0).take k0)=some y0 from g0)
   obtain⟨b,rb⟩:=opens_fld h1 (show DataW.trod enc P w 0 (fun _=>true) true n f1.type ((cs.drop k0).take k1)=some y1 from g1)
   obtain⟨c,rc⟩:=opens_fld h2 (show DataW.trod enc P w 0 (fun _=>true) true n f2.type ((cs.drop (k0+k1)).take k2)=some y2 from g2)
   obtain⟨d,rd⟩:=opens_fld h3 (show DataW.trod enc P w 0 (fun _=>true) true n f3.type ((cs.drop (k0+k1+k2)).take k3)=some y3 from g3)
   rw[List.drop_zero] at ra
   rw[List.take_of_length_le (by rw[List.length_drop];omega)] at rd
   rw[←List.drop_drop,←List.drop_drop] at rd
   rw[←List.drop_drop] at rc
   exact⟨(a,b,c,d),Reads.join (by omega) ra (Reads.join (by rw[List.length_drop];omega) rb (Reads.join (by rw[List.length_drop,List.length_drop];omega) rc rd))⟩
theorem opens_agg {t:TypeId} {fs:Array Field} {α:Type} {F:α→List Dt} {r:Reach} {b0:Nat} {v:Value} {d:DataW H} {ps:List MemPlace} (ht:P.underlying t=some (.struct fs)) (hval:Value.okWide P w r b0 t v) (ho:Opens enc P w t F) (h:DataW.Trod enc P w 0 (fun _=>true) true t v d ps):∃(a:α) (us:List Value),v= .agg us.toArray∧Reads w us (F a):=by
 obtain⟨cs,rfl,_⟩:=okWide_struct ht hval
 obtain⟨m,hm⟩:=h
 obtain⟨a,ra⟩:=opens_fld ho hm
 refine⟨a,cs.toList,by simp,?_⟩
 simpa[Value.cells] using ra
theorem flt_of_flat {α:Type} {enc:α→List Value} {m:Nat} (zs:List α):Dt.rows m (zs.flatMap fun z=>(enc z).map Dt.leaf)=flt m enc zs:=rfl
theorem opens_flt {α:Type} [Inhabited α] {t e:TypeId} {en:α→List Value} {m:Nat} (hm:∀z,(en z).length=m) (hm0:0<m) (ht:P.underlying t=some (.slice e)) (hc:P.cellsOf e=m) (he:Opens enc P w e (fun z:α=>(en z).map Dt.leaf)):Opens enc P w t (fun zs:List α=>[flt m en zs]):=
 opens_slice ht hc hm0 (fun z=>by simp[hm]) he
instance:Inhabited {s:ByteArray // s.size≤maxLen} :=⟨⟨⟨#[]⟩,Nat.zero_le _⟩⟩
def SubS:={s:ByteArray // s.size≤maxLen}
theorem opens_strs {t e:TypeId} (ht:P.underlying t=some (.slice e)) (hc:P.cellsOf e=1) (he:P.underlying e=some .string):Opens enc P w t (fun zs:List {s:ByteArray // s.size≤maxLen} =>[flt 1 strE (zs.map (·.1))]):=by
 have h:=opens_slice (enc:=enc) (w:=w) (F:=fun s:{s:ByteArray // s.size≤maxLen} =>[Dt.leaf (.string s.1)]) ht hc (by decide) (fun _=>rfl) (opens_str he)
 have e:(fun zs:List {s:ByteArray // s.size≤maxLen} =>[Dt.rows 1 (zs.flatMap fun s=>[Dt.leaf (.string s.1)])])=fun zs=>[flt 1 strE (zs.map (·.1))]:=by
  funext zs
  unfold flt fltC
  rw[List.flatMap_map]
  rfl
 rwa [e] at h
end
theorem sub_small (zs:List {s:ByteArray // s.size≤maxLen}) (i:Nat):((zs.map (·.1))[i]?.getD nilS).size≤maxLen:=by
 by_cases h:i<zs.length
 · simp[h];exact(zs[i]).2
 · rw[List.getElem?_eq_none (by simpa using h)];exact Nat.zero_le _
/-! ### The parameters' types -/
section
variable {H : Type} {enc : TypeId × Value → H} {W : World} {r : Reach} {b0 : Nat} {v : Value} {d : DataW H} {ps : List MemPlace}
instance:Inhabited Fib:=⟨nilB⟩
theorem opens_int_:Opens enc Tryz.prog W 3 (fun x:Int=>[.leaf (.int .i64 x)]):=opens_int Tryz.underlying3
theorem opens_fib:Opens enc Tryz.prog W 148 (fun f:Fib=>(fibE f).map Dt.leaf):=
 opens_map' (opens_struct4' (k0:=1) (k1:=1) (k2:=1) (k3:=1) Tryz.underlying148 (by kernel_rfl) rfl rfl rfl rfl (by kernel_rfl) (by kernel_rfl) (by kernel_rfl) (by kernel_rfl) opens_int_ opens_int_ opens_int_ opens_int_) (fun p=>⟨p.1,p.2.1,p.2.2.1,p.2.2.2⟩) (fun _=>rfl)
theorem opens_net:Opens enc Tryz.prog W 25 (fun p:List {s:ByteArray // s.size≤maxLen} × List Fib=>[flt 1 strE (p.1.map (·.1))]++[flt 4 fibE p.2]):=
 opens_struct2 (k0:=1) (k1:=1) Tryz.underlying25 (by kernel_rfl) rfl rfl (by kernel_rfl) (by kernel_rfl) (opens_strs Tryz.underlying22 (by kernel_rfl) Tryz.underlying9) (opens_flt (m:=4) (en:=fibE) (fun _=>rfl) (by decide) Tryz.underlying23 (by kernel_rfl) opens_fib)
theorem open_net (hval:Value.okWide Tryz.prog W r b0 25 v) (h:DataW.Trod enc Tryz.prog W 0 (fun _=>true) true 25 v d ps):∃n:Net,NetW W v n:=by
 obtain⟨⟨ns,fs⟩,us,rfl,h1,h2⟩:=opens_agg Tryz.underlying25 hval opens_net h
 match us,h1 with
 | [u1,u2],_=>
   obtain⟨x1,e1,r1⟩:=h2 0 _ rfl
   obtain⟨x2,e2,r2⟩:=h2 1 _ rfl
   cases e1;cases e2
   exact⟨⟨ns.map (·.1),fs⟩,u1,u2,rfl,r1,r2,sub_small ns⟩
end
section
variable {H : Type} {enc : TypeId × Value → H} {W : World} {r : Reach} {b0 : Nat} {v : Value} {d : DataW H} {ps : List MemPlace}
instance:Inhabited Gro:=⟨nilG⟩
theorem opens_dem:Opens enc Tryz.prog W 105 (fun z:Dem=>[.leaf (.int .i64 z.a),.leaf (.int .i64 z.b),.leaf (.int .i64 z.r),.leaf (.int .i64 z.c)]):=
 opens_map' (opens_struct4' (k0:=1) (k1:=1) (k2:=1) (k3:=1) Tryz.underlying105 (by kernel_rfl) rfl rfl rfl rfl (by kernel_rfl) (by kernel_rfl) (by kernel_rfl) (by kernel_rfl) opens_int_ opens_int_ opens_int_ opens_int_) (fun p=>⟨p.1,p.2.1,p.2.2.1,p.2.2.2⟩) (fun _=>rfl)
theorem opens_gro:Opens enc Tryz.prog W 107 (fun f:Gro=>(groE f).map Dt.leaf):=
 opens_map' (opens_struct3' (k0:=4) (k1:=1) (k2:=1) Tryz.underlying107 (by kernel_rfl) rfl rfl rfl (by kernel_rfl) (by kernel_rfl) (by kernel_rfl) opens_dem opens_int_ opens_int_) (fun p=>⟨p.1,p.2.1,p.2.2⟩) (fun _=>rfl)
theorem open_growths (hval:Value.okWide Tryz.prog W r b0 27 v) (h:DataW.Trod enc Tryz.prog W 0 (fun _=>true) true 27 v d ps):∃gs:List Gro,Rwt W (flt 6 groE gs) v:=
 opens_val Tryz.underlying27 hval (opens_flt (m:=6) (en:=groE) (fun _=>rfl) (by decide) Tryz.underlying27 (by kernel_rfl) opens_gro) h
end
end Go.Proofs.YtofcicomhnkocaaGreat
