/- Joined: XGroW XLgr XFmtP XLfm XGrx XOnp XSrtP XRow. -/
import Derived.Test.YtofcicomhnkocaaGreatAls
import Derived.Test.YtofcicomhnkocaaGreatBq02
import Derived.Test.YtofcicomhnkocaaGreatBq03
import Derived.BigQuiet
import Derived.Deep.AppendLies
import Derived.Deep.DeepFit
import Derived.Deep.DeepMust
import Derived.Deep.LoopGhost
import Derived.Deep.QuietTactic
import Derived.Deep.RegionHeld3
import Derived.Deep.Slices
import Derived.Handy
import Derived.Lib.Hide
import Derived.Lib.SmallJoins
import Derived.OpenShut
import Derived.StillTailTactics
import Derived.Test.YtofcicomhnkocaaGreatProg
import Derived.WalkLawsBesides
import Derived.WalkSpells
import Derived.Test.YtofcicomhnkocaaGreatBq01
import Derived.Maps.AppendAt
import Derived.Lib.QuietBelow
import Derived.OwnWalk
import Derived.WalkKit
import Derived.Lib.SlicesCompact
import Derived.Sort.OwnSortedInts
set_option linter.unusedVariables false
namespace Go.Proofs.YtofcicomhnkocaaGreat
set_option maxHeartbeats 3200000
open Go.RowKit Go.Sort
set_option maxRecDepth 100000
/-! ### Searches -/
section
variable {α : Type}
theorem anyG_more {zs:List α} {p:α→Bool} {nil:α} {k:Nat} (hk:k<zs.length) (h:(zs.take k).any p=false) (e:p (zs[k]?.getD nil)=false):(zs.take (k+1)).any p=false:=by
 rw[ξg hk] at e
 rw[List.take_add_one,List.any_append,h,ξg hk]
 simpa using e
def idxG (zs:List α) (p:α→Bool):Int:=match zs.findIdx? p with | some k=>k | none=> -1
theorem idxG_none {zs:List α} {p:α→Bool} (h:zs.any p=false):idxG zs p= -1:=by
 have:zs.findIdx? p=none:=by rw[List.findIdx?_eq_none_iff];simpa[List.any_eq_false] using h
 simp[idxG,this]
theorem idxG_some {zs:List α} {p:α→Bool} {nil:α} {k:Nat} (hk:k<zs.length) (h:(zs.take k).any p=false) (e:p (zs[k]?.getD nil)=true):idxG zs p=k:=by
 have:zs.findIdx? p=some k:=by
  rw[List.findIdx?_eq_some_iff_getElem]
  refine⟨hk,by simpa[ξg hk] using e,fun j hj=> ?_⟩
  simp only[List.any_eq_false] at h
  have:=h zs[j] (List.mem_take_iff_getElem.2 ⟨j,by omega,by simp⟩)
  simpa using this
 simp[idxG,this]
theorem idxG_geq (zs:List α) (p:α→Bool):decide (0≤idxG zs p)=zs.any p:=by
 cases h:zs.findIdx? p with
 | none=>
   rw[List.findIdx?_eq_none_iff] at h
   have:zs.any p=false:=by simpa[List.any_eq_false] using h
   rw[this];simp[idxG_none this]
 | some k=>
   have:=h
   rw[List.findIdx?_eq_some_iff_getElem] at h
   obtain⟨hk,e,_⟩:=h
   have h2:zs.any p=true:=List.any_eq_true.2 ⟨_,List.getElem_mem hk,e⟩
   rw[h2];simp[idxG,this]
end
def IsFn (F:FuncId):Prop:=∀(args:Array Value) (w:World),(callFunc F args).run Tryz.prog w= .ok (.enter F args) w
theorem isFn_of {F : FuncId} {fn : Func} (h1 : Tryz.prog.funcs[F]? = some fn) (h2 : (fn.name == "runtime.NumGoroutine") = false) (h3 : fn.body.isNone = false) : IsFn F := by
 intro args w
 unfold callFunc
 simp only[Sem.run_bind,run_program,Result.andThen_ok,h1,h2,h3]
 rfl
/-! ### Growths -/
structure Gro where
 d:Dem
 s:Int
 e:Int
def nilG:Gro:=⟨⟨0,0,0,0⟩,0,0⟩
def groE (g:Gro):List Value:=[.int .i64 g.d.a,.int .i64 g.d.b,.int .i64 g.d.r,.int .i64 g.d.c,.int .i64 g.s,.int .i64 g.e]
def groV (g:Gro):Value:= .agg #[.int .i64 g.d.a,.int .i64 g.d.b,.int .i64 g.d.r,.int .i64 g.d.c,.int .i64 g.s,.int .i64 g.e]
def groOk (m:Nat) (g:Gro):Bool:=demOk g.d m&&inB g.s 0 g.e&&decide (g.e<8)
def grsOk (n:Net) (gs:List Gro):Bool:=netOk n&&decide (gs.length≤12) && !gs.any (fun g=>!groOk n.ns.length g)
abbrev ptr (b:Nat):Value:= .pointer (some ⟨b,0,none⟩)
theorem growthBad_any (g:Gro) (bn:Nat) (a1 a2:Option Addr) (m c1 n2 c2:Nat) (w:World) (hm:m≤1000) (h0:w.cell? ⟨bn,0,none⟩=some (.slice a1 m c1)) (h1:w.cell? ⟨bn,1,none⟩=some (.slice a2 n2 c2)):
 Calls Tryz.prog 80 #[groV g,ptr bn] w fun e w'=>e= .returned (.bool (!groOk m g))∧Below w.heap.size w w':=by
 obtain⟨⟨a,b,r,c⟩,s,e⟩:=g
 have HD:=ξh (fun w=>isDemand_any a1 a2 m c1 n2 c2 ⟨a,b,r,c⟩ w hm)
 have HF:=ξh (show groOk m ⟨⟨a,b,r,c⟩,s,e⟩=(demOk ⟨a,b,r,c⟩ m&&inB s 0 e&&decide (e<8)) from rfl)
 generalize groOk m ⟨⟨a,b,r,c⟩,s,e⟩=q at *
 generalize demOk ⟨a,b,r,c⟩ m=dk at *
 obtain⟨bx,-,-,-⟩:=box_facts w #[.int .i64 a,.int .i64 b,.int .i64 r,.int .i64 c,.int .i64 s,.int .i64 e] 55
 have HB:=ξh bx
 have hbw:=World.block_lt_of_cell? w _ h0
 have hd8:decide (8≤e)= !decide (e<8):=by rw[Bool.eq_iff_iff];simp
 have hq:(!q)=(!dk || !inB s 0 e || !decide (e<8)):=by rw[HF.out];cases dk <;> cases inB s 0 e <;> cases decide (e<8) <;> rfl
 have HQ:=ξh hq
 have H8:=ξh hd8
 unfold groV
 unfold demV at HD
 clear bx hq hd8
 cases dk
 · go_enter Tryz.func80,Tryz.ntmps80
   go_wp2_with (go_at_call 81;refine(HD.out _).mono ?_;rintro e w' ⟨rfl,b2⟩;have HB2:=ξh (HB.out.trans (b2.mono HB.out.size));clear b2)
   go_ret
   exact⟨by rw[HQ.out];rfl,HB2.out⟩
 cases h2:inB s 0 e
 · rw[h2] at HQ
   go_enter Tryz.func80,Tryz.ntmps80
   go_wp2_with (first | (go_at_call 81;refine(HD.out _).mono ?_;rintro e w' ⟨rfl,b2⟩;have HB2:=ξh (HB.out.trans (b2.mono HB.out.size));obtain⟨hc,hf⟩:=bcell b2;clear b2) | (go_at_call 74;refine(within_any _ _ _ _).mono ?_;rintro e w' ⟨rfl,rfl⟩;rw[h2]))
   go_ret
   exact⟨by rw[HQ.out];rfl,HB2.out⟩
 rw[h2] at HQ
 cases h3:decide (e<8)
 all_goals
  rw[h3] at H8
  have h8:=H8.out
  simp only[Bool.not_false,Bool.not_true] at h8
  rw[h3] at HQ
  clear h3
  go_enter Tryz.func80,Tryz.ntmps80
  go_wp2_with (first | (go_at_call 81;refine(HD.out _).mono ?_;rintro e w' ⟨rfl,b2⟩;have HB2:=ξh (HB.out.trans (b2.mono HB.out.size));obtain⟨hc,hf⟩:=bcell b2;clear b2) | (go_at_call 74;refine(within_any _ _ _ _).mono ?_;rintro e w' ⟨rfl,rfl⟩;rw[h2]))
  go_ret
  exact⟨by rw[HQ.out];rfl,HB2.out⟩
def mkGro (q:Int):Gro:=⟨⟨q,q+1,q+1+1,q+1+1+1⟩,q+1+1+1+1,q+1+1+1+1+1⟩
theorem szGrowthS_any (v:Value) (zs:List Gro) (l:Int) (w:World) (h:Rwt w (flt 6 groE zs) v) (h0:0≤l) (h1:l≤1048576):
 Calls Tryz.prog 14 #[v,.int .i64 l] w fun e w'=>e= .returned (.int .i64 (if l<zs.length then -1 else l-zs.length))∧w=w':=by
 obtain⟨a,n,cap,rfl,HN,hla,_⟩:=flt_opnw (m:=6) (enc:=groE) (fun _=>rfl) (by omega) nilG h
 rw[HN.out]
 clear h
 by_cases hc:l-n<0
 · have hb:decide (l-n<0)=true:=by simpa using hc
   have e:(if l<(n:Int) then(-1:Int) else l-n)= -1:=if_pos (by omega)
   rw[e]
   go_enter Tryz.func14,Tryz.ntmps14
   go_wp2
   go_ret
   exact⟨rfl,rfl⟩
 · have hb:decide (l-n<0)=false:=by simpa using hc
   have e:(if l<(n:Int) then(-1:Int) else l-n)=l-n:=if_neg (by omega)
   rw[e]
   go_enter Tryz.func14,Tryz.ntmps14
   go_wp2
   go_ret
   exact⟨rfl,rfl⟩
theorem toDemand_any (z:Dem) (w:World):
 Calls Tryz.prog 110 #[demV z] w fun e w'=>e= .returned (demV z)∧Below w.heap.size w w':=by
 unfold demV
 go_enter Tryz.func110,Tryz.ntmps110
 go_wp2
 exact bodyPost_ret (v:= .agg #[.int .i64 z.a,.int .i64 z.b,.int .i64 z.r,.int .i64 z.c]) (by simp[results,Tryz.results110,go_sem]) rfl ⟨rfl,(((ξb _ _).alloc (ξr _) _).alloc (by simp) _).alloc (by simp;omega) _⟩
theorem eqDemand_same (z:Dem) (w:World):
 Calls Tryz.prog 120 #[demV z,demV z] w fun e w'=>e= .returned (.bool true)∧Below w.heap.size w w':=by
 have n0:(z.a != z.a)=false:=by simp
 have n1:(z.b != z.b)=false:=by simp
 have n2:(z.r != z.r)=false:=by simp
 have n3:(z.c != z.c)=false:=by simp
 have HB:=ξh (((ξb w.heap.size w).alloc (ξr _) (.cells #[.int .i64 z.a,.int .i64 z.b,.int .i64 z.r,.int .i64 z.c] 53)).alloc (by simp) (.cells #[.int .i64 z.a,.int .i64 z.b,.int .i64 z.r,.int .i64 z.c] 53))
 unfold demV
 go_enter Tryz.func120,Tryz.ntmps120
 go_wp2
 go_ret
 exact⟨rfl,HB.out⟩
theorem toGrowth_any (z:Gro) (w:World):
 Calls Tryz.prog 63 #[groV z] w fun e w'=>e= .returned (groV z)∧Below w.heap.size w w':=by
 have HS:=ξh (fun w=>toDemand_any (z.d) w)
 obtain⟨W,hW⟩:∃W,W=(((w.alloc (.cells #[.int .i64 z.d.a,.int .i64 z.d.b,.int .i64 z.d.r,.int .i64 z.d.c,.int .i64 z.s,.int .i64 z.e] 107)).alloc (.cells #[.int .i64 0,.int .i64 0,.int .i64 0,.int .i64 0,.int .i64 0,.int .i64 0] 55)).alloc (.cells #[.int .i64 0,.int .i64 0,.int .i64 0,.int .i64 0,.int .i64 0,.int .i64 0] 55)):=⟨_,rfl⟩
 have h1:=(ξb w.heap.size w).alloc (ξr _) (.cells #[.int .i64 z.d.a,.int .i64 z.d.b,.int .i64 z.d.r,.int .i64 z.d.c,.int .i64 z.s,.int .i64 z.e] 107)
 have h2:=h1.alloc h1.size (.cells #[.int .i64 0,.int .i64 0,.int .i64 0,.int .i64 0,.int .i64 0,.int .i64 0] 55)
 have h3:=h2.alloc h2.size (.cells #[.int .i64 0,.int .i64 0,.int .i64 0,.int .i64 0,.int .i64 0,.int .i64 0] 55)
 have k1:=ξn w (.cells #[.int .i64 z.d.a,.int .i64 z.d.b,.int .i64 z.d.r,.int .i64 z.d.c,.int .i64 z.s,.int .i64 z.e] 107)
 have k2:=ξn (w.alloc (.cells #[.int .i64 z.d.a,.int .i64 z.d.b,.int .i64 z.d.r,.int .i64 z.d.c,.int .i64 z.s,.int .i64 z.e] 107)) (.cells #[.int .i64 0,.int .i64 0,.int .i64 0,.int .i64 0,.int .i64 0,.int .i64 0] 55)
 have k3:=ξn ((w.alloc (.cells #[.int .i64 z.d.a,.int .i64 z.d.b,.int .i64 z.d.r,.int .i64 z.d.c,.int .i64 z.s,.int .i64 z.e] 107)).alloc (.cells #[.int .i64 0,.int .i64 0,.int .i64 0,.int .i64 0,.int .i64 0,.int .i64 0] 55)) (.cells #[.int .i64 0,.int .i64 0,.int .i64 0,.int .i64 0,.int .i64 0,.int .i64 0] 55)
 have k1':=(heap_alloc_old _ (.cells #[.int .i64 0,.int .i64 0,.int .i64 0,.int .i64 0,.int .i64 0,.int .i64 0] 55) (ξa ((heap_alloc_old _ (.cells #[.int .i64 0,.int .i64 0,.int .i64 0,.int .i64 0,.int .i64 0,.int .i64 0] 55) (ξa k1).1).trans k1)).1).trans ((heap_alloc_old _ (.cells #[.int .i64 0,.int .i64 0,.int .i64 0,.int .i64 0,.int .i64 0,.int .i64 0] 55) (ξa k1).1).trans k1)
 have k2':=(heap_alloc_old _ (.cells #[.int .i64 0,.int .i64 0,.int .i64 0,.int .i64 0,.int .i64 0,.int .i64 0] 55) (ξa k2).1).trans k2
 rw[show(w.alloc (.cells #[.int .i64 z.d.a,.int .i64 z.d.b,.int .i64 z.d.r,.int .i64 z.d.c,.int .i64 z.s,.int .i64 z.e] 107)).heap.size=w.heap.size+1 by simp] at k2'
 rw[show((w.alloc (.cells #[.int .i64 z.d.a,.int .i64 z.d.b,.int .i64 z.d.r,.int .i64 z.d.c,.int .i64 z.s,.int .i64 z.e] 107)).alloc (.cells #[.int .i64 0,.int .i64 0,.int .i64 0,.int .i64 0,.int .i64 0,.int .i64 0] 55)).heap.size=w.heap.size+1+1 by simp] at k3
 rw[←hW] at h3 k1' k2' k3
 have HW:=ξh hW
 have HB:=ξh h3
 have K1:=ξh k1'
 have K2:=ξh k2'
 have K3:=ξh k3
 unfold groV
 unfold demV at HS
 clear h1 h2 h3 k1 k2 k3 k1' k2' hW
 go_enter Tryz.func63,Tryz.ntmps63
 go_wp2_with fail
 rw[←HW.out]
 refine(HS.out _).mono ?_
 rintro e w2 ⟨rfl,b2⟩
 have m1:=kept_o' K1.out b2
 have x4:=blkc m1 (j:=4) (u:= .int .i64 z.s) rfl
 have x5:=blkc m1 (j:=5) (u:= .int .i64 z.e) rfl
 have M1:=ξh m1
 have M2:=ξh (kept_o' K2.out b2)
 have M3:=ξh (kept_o' K3.out b2)
 have HB2:=ξh (HB.out.trans (b2.mono HB.out.size))
 clear b2 m1 HW
 go_wp2_with (first
  | ((show wpList _ _ _ (⟨none,.store 53 _ _,_,_,_,_⟩::_) _ _);refine wpList_stx rfl 53 _ _ rfl (w.heap.size+1+1) 0 [.int .i64 z.d.a,.int .i64 z.d.b,.int .i64 z.d.r,.int .i64 z.d.c] rfl rfl M3.out (by simp) (by kernel_rfl) (by simp[Value.oneCell']) ?_;intro w3 hs;have n1:=hs.keep (by omega) M1.out;have N2:=ξh (hs.keep (by omega) M2.out);have n3:=hs.blk;have HB3:=ξh (hs.below w.heap.size w (by omega) HB2.out);clear hs x4 x5;have y4:=blkc n1 (j:=4) (u:= .int .i64 z.s) rfl;have y5:=blkc n1 (j:=5) (u:= .int .i64 z.e) rfl;have N1:=ξh n1;have N3:=ξh n3;clear n1 n3)
  | ((show wpList _ _ _ (⟨none,.store 3 (.tmp 10) _,_,_,_,_⟩::_) _ _);refine wpList_st1 rfl 3 _ _ rfl (w.heap.size+1+1) 4 (.int .i64 z.s) rfl rfl N3.out (by simp[putA]) (by kernel_rfl) ⟨rfl,rfl⟩ ?_;intro w3 hs;have n1:=hs.keep (by omega) N1.out;have N2:=ξh (hs.keep (by omega) N2.out);have n3:=hs.blk;have HB3:=ξh (hs.below w.heap.size w (by omega) HB3.out);clear hs y4 y5;have y4:=blkc n1 (j:=4) (u:= .int .i64 z.s) rfl;have y5:=blkc n1 (j:=5) (u:= .int .i64 z.e) rfl;have N1:=ξh n1;have N3:=ξh n3;clear n1 n3)
  | ((show wpList _ _ _ (⟨none,.store 3 (.tmp 13) _,_,_,_,_⟩::_) _ _);refine wpList_st1 rfl 3 _ _ rfl (w.heap.size+1+1) 5 (.int .i64 z.e) rfl rfl N3.out (by simp[putA]) (by kernel_rfl) ⟨rfl,rfl⟩ ?_;intro w3 hs;have n1:=hs.keep (by omega) N1.out;have N2:=ξh (hs.keep (by omega) N2.out);have n3:=hs.blk;have HB3:=ξh (hs.below w.heap.size w (by omega) HB3.out);clear hs y4 y5;have y4:=blkc n1 (j:=4) (u:= .int .i64 z.s) rfl;have y5:=blkc n1 (j:=5) (u:= .int .i64 z.e) rfl;have N1:=ξh n1;have N3:=ξh n3;clear n1 n3)
  | ((show wpList _ _ _ (⟨none,.store 55 _ _,_,_,_,_⟩::_) _ _);refine wpList_stx rfl 55 _ _ rfl (w.heap.size+1) 0 [.int .i64 z.d.a,.int .i64 z.d.b,.int .i64 z.d.r,.int .i64 z.d.c,.int .i64 z.s,.int .i64 z.e] rfl rfl N2.out (by simp) (by kernel_rfl) (by simp[Value.oneCell']) ?_;intro w4 hs;have n2:=hs.blk;have HB4:=ξh (hs.below w.heap.size w (by omega) HB3.out);clear hs;have r0:=blkc n2 (j:=0) (u:= .int .i64 z.d.a) rfl;have r1:=blkc n2 (j:=1) (u:= .int .i64 z.d.b) rfl;have r2:=blkc n2 (j:=2) (u:= .int .i64 z.d.r) rfl;have r3:=blkc n2 (j:=3) (u:= .int .i64 z.d.c) rfl;have r4:=blkc n2 (j:=4) (u:= .int .i64 z.s) rfl;have r5:=blkc n2 (j:=5) (u:= .int .i64 z.e) rfl)
  | ((show wpList _ _ _ (⟨some _,.load 55 _,_,_,_,_⟩::_) _ _);refine wpList_ldx rfl 55 _ rfl (w.heap.size+1+1) 0 rfl [.int .i64 z.d.a,.int .i64 z.d.b,.int .i64 z.d.r,.int .i64 z.d.c,.int .i64 z.s,.int .i64 z.e] N3.out rfl _ (by exact Tryz.underlying55) rfl (by kernel_rfl) ?_))
 exact bodyPost_ret (v:= .agg #[.int .i64 z.d.a,.int .i64 z.d.b,.int .i64 z.d.r,.int .i64 z.d.c,.int .i64 z.s,.int .i64 z.e]) (by simp[results,Tryz.results63,go_sem,r0,r1,r2,r3,r4,r5]) rfl ⟨rfl,HB4.out⟩
theorem eqGrowth_same (z:Gro) (w:World):
 Calls Tryz.prog 69 #[groV z,groV z] w fun e w'=>e= .returned (.bool true)∧Below w.heap.size w w':=by
 have n0:(z.s != z.s)=false:=by simp
 have n1:(z.e != z.e)=false:=by simp
 have HB:=ξh (((ξb w.heap.size w).alloc (ξr _) (.cells #[.int .i64 z.d.a,.int .i64 z.d.b,.int .i64 z.d.r,.int .i64 z.d.c,.int .i64 z.s,.int .i64 z.e] 55)).alloc (by simp) (.cells #[.int .i64 z.d.a,.int .i64 z.d.b,.int .i64 z.d.r,.int .i64 z.d.c,.int .i64 z.s,.int .i64 z.e] 55))
 have HS:=ξh (fun w=>eqDemand_same (z.d) w)
 unfold groV
 unfold demV at HS
 go_enter Tryz.func69,Tryz.ntmps69
 go_wp2_with fail
 refine(HS.out _).mono ?_
 rintro e w2 ⟨rfl,b2⟩
 obtain⟨hc,hf⟩:=bcell b2
 have HB2:=ξh (HB.out.trans (b2.mono HB.out.size))
 clear b2
 go_wp2
 go_ret
 exact⟨rfl,HB2.out⟩
theorem Tryz.infoGrowth:(Tryz.prog.info? 55).map (fun i=>(i.zero,i.size,i.bytes))=some (some (.agg #[.int .i64 0,.int .i64 0,.int .i64 0,.int .i64 0,.int .i64 0,.int .i64 0]),6,48):=by kernel_rfl
theorem toGrowthS_any (v:Value) (zs:List Gro) (w:World) (h:Rwt w (flt 6 groE zs) v) (hr:zs.length≤1048576):
 Calls Tryz.prog 18 #[v] w fun e w'=>∃v',e= .returned v'∧Ofr w' w.heap.size (flt 6 groE zs) v'∧Below w.heap.size w w':=by
 obtain⟨i0,hi,hz0,hz1,hz2⟩:=info_parts Tryz.infoGrowth
 obtain⟨a,n,cap,rfl,HN,hn,ha⟩:=flt_opnw (m:=6) (enc:=groE) (fun _=>rfl) (by omega) nilG h
 have HA:=ξh ha
 have HL:=ξh (fun k hk=>fillG_len nilG zs n k HN.out hk)
 have HST:=ξh (fun k hk=>fillG_step nilG zs n k HN.out hk)
 have HAL:=ξh (fillG_all nilG zs n HN.out)
 rw[HN.out] at hr
 clear ha h
 go_enter Tryz.func18,Tryz.ntmps18
 go_wp2_with (refine wpList_make_full _ rfl _ _ 39 rfl w.heap.size 55 i0 (.agg #[.int .i64 0,.int .i64 0,.int .i64 0,.int .i64 0,.int .i64 0,.int .i64 0]) 6 Tryz.underlying39 hi hz0 hz1 _ _ _ _ n rfl rfl rfl rfl (by rw[hz2];omega) (by unfold maxLen;omega) (ξr _) ?_;intro w1 hown1 hgrow1)
 have HO1:=ξh (show Ofr w1 w.heap.size (flt 6 groE (fillG nilG zs n 0)) (.slice (some ⟨w.heap.size,0,none⟩) n n) from by
  rw[fillG_zero]
  exact made_flat (enc:=groE) (fun _=>rfl) (by omega) nilG rfl hown1)
 have HB1:=ξh (show Below w.heap.size w w1 from(ξb _ _).grown hgrow1 (ξr _) (by simp))
 clear hown1 hgrow1
 go_loopw [4] (fun i wr=>∃k:Nat,k≤n∧i= .int .i64 k∧Hid (Ofr wr w.heap.size (flt 6 groE (fillG nilG zs n k)) (.slice (some ⟨w.heap.size,0,none⟩) n n))∧Hid (Below w.heap.size w wr)) (fun i _=>n-(intOf i).toNat)
 case atStart=>exact⟨0,by omega,rfl,HO1.out,HB1.out⟩
 case round=>
  obtain⟨k,hk,rfl,HO,HB⟩:=hrel
  by_cases hlt:k<n
  · obtain⟨b,off,rfl,hbs,hcs⟩:=HA.out (by omega)
    have hltI:(k:Int)<(n:Int):=by omega
    have d0:=(HB.out.cell (p:=⟨b,off+k*6+0,none⟩) hbs).trans (hcs k hlt 0 _ rfl)
    have d1:=(HB.out.cell (p:=⟨b,off+k*6+1,none⟩) hbs).trans (hcs k hlt 1 _ rfl)
    have d2:=(HB.out.cell (p:=⟨b,off+k*6+2,none⟩) hbs).trans (hcs k hlt 2 _ rfl)
    have d3:=(HB.out.cell (p:=⟨b,off+k*6+3,none⟩) hbs).trans (hcs k hlt 3 _ rfl)
    have d4:=(HB.out.cell (p:=⟨b,off+k*6+4,none⟩) hbs).trans (hcs k hlt 4 _ rfl)
    have d5:=(HB.out.cell (p:=⟨b,off+k*6+5,none⟩) hbs).trans (hcs k hlt 5 _ rfl)
    simp only[Nat.add_zero] at d0
    have HS:=ξh (fun w=>toGrowth_any (zs[k]?.getD nilG) w)
    have HSK:=ξh (HST.out k hlt)
    have HLK:=ξh (HL.out k (by omega))
    clear hcs HO1 HB1
    unfold groV at HS
    generalize zs[k]?.getD nilG=z at *
    go_wp2_with fail
    refine(HS.out _).mono ?_
    rintro e w2 ⟨rfl,b2⟩
    obtain⟨g,o,cp,ev,hg1,hg2,hcc,hfz,hof⟩:=flt_put (enc:=groE) (m:=6) (fun _=>rfl) (by omega) (HO.out.below b2) (ξs HB.out.size b2.size) (k:=k) (by rw[HLK.out];exact hlt) z
    simp only[Value.slice.injEq,Option.some.injEq,Addr.mk.injEq,and_true] at ev
    obtain⟨⟨rfl,rfl⟩,-,rfl⟩:=ev
    rw[HSK.out] at hof
    simp only[Nat.zero_add] at hcc hof
    obtain⟨q0,c0⟩:=hcc 0 (by omega)
    obtain⟨q1,c1⟩:=hcc 1 (by omega)
    obtain⟨q2,c2⟩:=hcc 2 (by omega)
    obtain⟨q3,c3⟩:=hcc 3 (by omega)
    obtain⟨q4,c4⟩:=hcc 4 (by omega)
    obtain⟨q5,c5⟩:=hcc 5 (by omega)
    simp only[Nat.add_zero] at c0
    have f0:=hfz (k*6+0)
    have f1:=hfz (k*6+1)
    have f2:=hfz (k*6+2)
    have f3:=hfz (k*6+3)
    have f4:=hfz (k*6+4)
    have f5:=hfz (k*6+5)
    simp only[Nat.add_zero] at f0
    have HB2:=ξh (setRow_below (ξr w.heap.size) (groE z) w2 (k*6) (HB.out.trans (b2.mono HB.out.size)))
    simp only[setRow,groE,Nat.add_assoc,Nat.reduceAdd] at hof HB2
    have HOF:=ξh hof
    clear hof b2 hfz hcc
    go_wp2
    go_roundw
    case rel=>exact⟨k+1,by omega,by go_num,HOF.out,HB2.out⟩
    case measure=>simp[intOf];omega
  · obtain rfl:k=n:=by omega
    have hof:=HO.out
    rw[HAL.out] at hof
    have HOF:=ξh hof
    go_wp2
    go_ret
    exact⟨_,rfl,HOF.out,HB.out⟩
theorem eqGrowthS_same (va vb:Value) (zs:List Gro) (w:World) (ha:Rdt w (flt 6 groE zs) va) (hb:Rdt w (flt 6 groE zs) vb):
 Calls Tryz.prog 22 #[va,vb] w fun e w'=>e= .returned (.bool true)∧Below w.heap.size w w':=by
 obtain⟨a,n,ca,rfl,HN,_,hn,HA⟩:=flt_opn (m:=6) (enc:=groE) (fun _=>rfl) (by omega) nilG ha
 obtain⟨b,n2,cb,rfl,HM,_,_,HBB⟩:=flt_opn (m:=6) (enc:=groE) (fun _=>rfl) (by omega) nilG hb
 obtain rfl:n=n2:=HN.out.symm.trans HM.out
 have HA:=ξh HA
 have HBB:=ξh HBB
 clear HM ha hb
 have hne:((n:Int) != (n:Int))=false:=by simp
 go_enter Tryz.func22,Tryz.ntmps22
 go_wp2
 go_loopw [5] (fun i wr=>∃k:Nat,k≤n∧i= .int .i64 k∧Hid (Below w.heap.size w wr)) (fun i _=>n-(intOf i).toNat)
 case atStart=>exact⟨0,by omega,rfl,ξb _ _⟩
 case round=>
  obtain⟨k,hk,rfl,HB⟩:=hrel
  by_cases hlt:k<n
  · obtain⟨g1,o1,rfl,hg1,hc1⟩:=HA.out (by omega)
    obtain⟨g2,o2,rfl,hg2,hc2⟩:=HBB.out (by omega)
    have hltI:(k:Int)<(n:Int):=by omega
    have x0:=rg ((HB.out.cell (p:=⟨g1,o1+k*6+0,none⟩) hg1).trans (hc1 k hlt 0 _ rfl))
    have y0:=rg ((HB.out.cell (p:=⟨g2,o2+k*6+0,none⟩) hg2).trans (hc2 k hlt 0 _ rfl))
    have x1:=rg ((HB.out.cell (p:=⟨g1,o1+k*6+1,none⟩) hg1).trans (hc1 k hlt 1 _ rfl))
    have y1:=rg ((HB.out.cell (p:=⟨g2,o2+k*6+1,none⟩) hg2).trans (hc2 k hlt 1 _ rfl))
    have x2:=rg ((HB.out.cell (p:=⟨g1,o1+k*6+2,none⟩) hg1).trans (hc1 k hlt 2 _ rfl))
    have y2:=rg ((HB.out.cell (p:=⟨g2,o2+k*6+2,none⟩) hg2).trans (hc2 k hlt 2 _ rfl))
    have x3:=rg ((HB.out.cell (p:=⟨g1,o1+k*6+3,none⟩) hg1).trans (hc1 k hlt 3 _ rfl))
    have y3:=rg ((HB.out.cell (p:=⟨g2,o2+k*6+3,none⟩) hg2).trans (hc2 k hlt 3 _ rfl))
    have x4:=rg ((HB.out.cell (p:=⟨g1,o1+k*6+4,none⟩) hg1).trans (hc1 k hlt 4 _ rfl))
    have y4:=rg ((HB.out.cell (p:=⟨g2,o2+k*6+4,none⟩) hg2).trans (hc2 k hlt 4 _ rfl))
    have x5:=rg ((HB.out.cell (p:=⟨g1,o1+k*6+5,none⟩) hg1).trans (hc1 k hlt 5 _ rfl))
    have y5:=rg ((HB.out.cell (p:=⟨g2,o2+k*6+5,none⟩) hg2).trans (hc2 k hlt 5 _ rfl))
    simp only[Nat.add_zero] at x0 y0
    have HQ:=ξh (fun w=>eqGrowth_same (zs[k]?.getD nilG) w)
    unfold groV at HQ
    generalize zs[k]?.getD nilG=z at *
    clear hc1 hc2
    go_wp2
    refine wp_region_quiet_below (by kernel_rfl) (by kernel_rfl) ?_
    repeat (go_big_quiet_step (first | (go_at_call 69;exact Calls.regrown_of (HQ.out _))))
    refine wpQuiet_nil ?_
    rintro _ ⟨⟨dq,osq⟩,rfl⟩
    go_wp2
    go_roundw
    case rel=>exact⟨k+1,by omega,by go_num,HB.out.trans ((below_regrown _ dq osq).mono HB.out.size)⟩
    case measure=>simp[intOf];omega
  · obtain rfl:k=n:=by omega
    go_wp2
    go_ret
    exact⟨rfl,HB.out⟩
theorem markGrowthS_any (v:Value) (zs:List Gro) (fp:List Nat) (q:Int) (w:World) (h:Odt w (flt 6 groE zs) v fp) (hn:fp.Nodup) (hb:zs.length≤4194304) (hq:0≤q) (hq2:q≤1125899906842624):
 Calls Tryz.prog 36 #[v,.int .i64 q] w fun e w'=>e= .returned (.int .i64 (q+6*(zs.length:Int)))∧Odt w' (flt 6 groE ((List.range zs.length).map fun i:Nat=>mkGro (q+6*(i:Int)))) v fp∧Wr w w' fp:=by
 obtain⟨a,n,cap,rfl,HN,_,hnl,-⟩:=flt_opn (m:=6) (enc:=groE) (fun _=>rfl) (by omega) nilG h.rd
 obtain⟨f,hf⟩:∃f:Nat→Gro,f=fun i:Nat=>mkGro (q+6*(i:Int)):=⟨_,rfl⟩
 have HFE:=ξh (fun i=>congrFun hf i)
 rw[←hf,HN.out]
 rw[HN.out] at hb
 clear hf
 have HST:=ξh (fun k (h:k<n)=>mkG_step f zs k (by rw[HN.out];exact h))
 have HLN:=ξh (fun k (h:k≤n)=>(mkG_len f zs k (by rw[HN.out];exact h)).trans HN.out)
 have HALL:=ξh (mkG_all f zs n HN.out)
 have HH:=ξh h
 clear h
 go_enter Tryz.func36,Tryz.ntmps36
 go_wp2
 go_loopw [1,5] (fun x i wr=>∃k:Nat,k≤n∧i= .int .i64 k∧x= .int .i64 (q+6*(k:Int))∧Hid (Odt wr (flt 6 groE (mkG f zs k)) (.slice a n cap) fp)∧Hid (Wr w wr fp)) (fun _ i _=>n-(intOf i).toNat)
 case atStart=>exact⟨0,by omega,rfl,int_eq (by simp),by rw[mkG_zero];exact HH.out,Wr.refl _ _⟩
 case round=>
  obtain⟨k,hk,rfl,rfl,HO,HW⟩:=hrel
  by_cases hlt:k<n
  · have hltI:(k:Int)<(n:Int):=by omega
    obtain⟨g,off,rfl,hcc,hfz,hset⟩:=flt_mark (enc:=groE) (m:=6) (fun _=>rfl) (by omega) HO.out hn (k:=k) (by rw[HLN.out k (by omega)];exact hlt)
    obtain⟨s1,s2⟩:=hset (f k)
    rw[HST.out k hlt] at s1
    have hfk:=HFE.out k
    obtain⟨p,hp⟩:∃p:Int,p=q+6*(k:Int):=⟨_,rfl⟩
    have hp1:0≤p:=by omega
    have hp2:p≤1125899940397056:=by omega
    rw[←hp] at hfk ⊢
    have HP:=ξh hp
    clear hp
    rw[hfk] at s1 s2
    simp only[setRow,groE,mkGro,Nat.add_assoc (off+k*6),Nat.reduceAdd] at s1 s2
    have HS1:=ξh s1
    have HS2:=ξh (HW.out.trans s2)
    obtain⟨q0,c0⟩:=hcc 0 (by omega)
    obtain⟨q1,c1⟩:=hcc 1 (by omega)
    obtain⟨q2,c2⟩:=hcc 2 (by omega)
    obtain⟨q3,c3⟩:=hcc 3 (by omega)
    obtain⟨q4,c4⟩:=hcc 4 (by omega)
    obtain⟨q5,c5⟩:=hcc 5 (by omega)
    have f0:=hfz (off+k*6+0)
    have f1:=hfz (off+k*6+1)
    have f2:=hfz (off+k*6+2)
    have f3:=hfz (off+k*6+3)
    have f4:=hfz (off+k*6+4)
    have f5:=hfz (off+k*6+5)
    simp only[Nat.add_zero] at c0 f0
    clear s1 s2 hset hcc hfz hfk
    go_wp2
    go_roundw
    case rel=>exact⟨k+1,by omega,by go_num,int_eq (by rw[HP.out];omega),HS1.out,HS2.out⟩
    case measure=>simp[intOf];omega
  · obtain rfl:k=n:=by omega
    have ho:=HO.out
    rw[HALL.out] at ho
    have HOF:=ξh ho
    clear HO ho
    go_wp2
    go_ret
    exact⟨rfl,HOF.out,HW.out⟩
theorem szGrowthS_Q (v:Value) (zs:List Gro) (l:Int) (w:World) (h:Rwt w (flt 6 groE zs) v) (h0:0≤l) (h1:l≤1048576):Calls Tryz.prog 14 #[v,.int .i64 l] w (SzQ zs.length l w):=by
 refine(szGrowthS_any v zs l w h h0 h1).mono ?_
 rintro e w' ⟨rfl,rfl⟩
 by_cases hx:l<(zs.length:Int)
 · rw[if_pos hx];exact⟨_,rfl,ξb _ _,.inl ⟨rfl,hx⟩⟩
 · rw[if_neg hx];exact⟨_,rfl,ξb _ _,.inr ⟨rfl,by omega⟩⟩
theorem toGrowthS_P (v:Value) (zs:List Gro) (w:World) (h:Rwt w (flt 6 groE zs) v) (hr:zs.length≤1048576):Calls Tryz.prog 18 #[v] w (ToP (fun w' v' fp=>Odt w' (flt 6 groE zs) v' fp) w):=by
 refine(toGrowthS_any v zs w h hr).mono ?_
 rintro e w' ⟨v',rfl,⟨fp,h1,h2,h3⟩,hb⟩
 exact⟨v',fp,rfl,h1,h2,h3,hb⟩
theorem markGrowthS_N (v:Value) (zs:List Gro) (fp:List Nat) (q:Nat) (w:World) (h:Odt w (flt 6 groE zs) v fp) (hn:fp.Nodup) (hb:zs.length≤1048576) (hq:0<q) (hq2:q≤1099511627776):
 Calls Tryz.prog 36 #[v,.int .i64 (q:Int)] w fun e w'=>e= .returned (.int .i64 ((q+6*zs.length:Nat):Int))∧Odt w' (flt 6 groE ((List.range zs.length).map fun i:Nat=>mkGro ((q:Int)+6*(i:Int)))) v fp∧Wr w w' fp:=by
 refine(markGrowthS_any v zs fp q w h hn (by omega) (by omega) (by omega)).mono ?_
 rintro e w' ⟨rfl,h1,h2⟩
 exact⟨ret_int (by omega),h1,h2⟩
open Go.RowKit
structure Fmt where
 c:Int
 r:Int
def nilFm:Fmt:=⟨0,0⟩
def fmE (z:Fmt):List Value:=[.int .i64 z.c,.int .i64 z.r]
def fmAt (zs:List Fmt) (i:Nat):Bool:=
 inB (zs[i]?.getD nilFm).c 1 20000&&(inB (zs[i]?.getD nilFm).r 1 1000 && !(decide (0<i)&&(decide ((zs[i-1]?.getD nilFm).c≤(zs[i]?.getD nilFm).c) || decide ((zs[i]?.getD nilFm).r≤(zs[i-1]?.getD nilFm).r))))
def fmOk (zs:List Fmt):Bool:=(List.range zs.length).all (fmAt zs)&&inB (zs.length:Int) 1 6
theorem fmOk_at {zs:List Fmt} {k:Nat} (hk:k<zs.length) (h:fmAt zs k=false):fmOk zs=false:=by
 unfold fmOk
 have:(List.range zs.length).all (fmAt zs)=false:=by
  rw[List.all_eq_false]
  exact⟨k,List.mem_range.2 hk,by simp[h]⟩
 rw[this];rfl
theorem fmOk_all {zs:List Fmt} (h:∀i,i<zs.length→fmAt zs i=true):fmOk zs=inB (zs.length:Int) 1 6:=by
 unfold fmOk
 have:(List.range zs.length).all (fmAt zs)=true:=List.all_eq_true.2 fun i hi=>h i (List.mem_range.1 hi)
 rw[this];rfl
theorem fmOk_long {zs:List Fmt} (h:6<zs.length):fmOk zs=false:=by
 unfold fmOk
 have:inB (zs.length:Int) 1 6=false:=by unfold inB;rw[ξf (show¬(zs.length:Int)≤6 by omega)];simp
 rw[this];simp
theorem fmOk_len {zs:List Fmt} (h:fmOk zs=true):1≤zs.length∧zs.length≤6:=by
 unfold fmOk at h
 simp only[Bool.and_eq_true] at h
 have:=inB_true h.2
 omega
theorem fm_up {zs:List Fmt} {k:Nat} (h:∀i,i<k→fmAt zs i=true) (hk:fmAt zs k=true):∀i,i<k+1→fmAt zs i=true:=fun i hi=>by
 by_cases e:i=k
 · subst e;exact hk
 · exact h i (by omega)
def fmV (z:Fmt):Value:= .agg #[.int .i64 z.c,.int .i64 z.r]
def mkFmt (q:Int):Fmt:=⟨q,q+1⟩
theorem szFormatS_any (v:Value) (zs:List Fmt) (l:Int) (w:World) (h:Rwt w (flt 2 fmE zs) v) (h0:0≤l) (h1:l≤1048576):
 Calls Tryz.prog 13 #[v,.int .i64 l] w fun e w'=>e= .returned (.int .i64 (if l<zs.length then -1 else l-zs.length))∧w=w':=by
 obtain⟨a,n,cap,rfl,HN,hla,_⟩:=flt_opnw (m:=2) (enc:=fmE) (fun _=>rfl) (by omega) nilFm h
 rw[HN.out]
 clear h
 by_cases hc:l-n<0
 · have hb:decide (l-n<0)=true:=by simpa using hc
   have e:(if l<(n:Int) then(-1:Int) else l-n)= -1:=if_pos (by omega)
   rw[e]
   go_enter Tryz.func13,Tryz.ntmps13
   go_wp2
   go_ret
   exact⟨rfl,rfl⟩
 · have hb:decide (l-n<0)=false:=by simpa using hc
   have e:(if l<(n:Int) then(-1:Int) else l-n)=l-n:=if_neg (by omega)
   rw[e]
   go_enter Tryz.func13,Tryz.ntmps13
   go_wp2
   go_ret
   exact⟨rfl,rfl⟩
theorem toFormat_any (z:Fmt) (w:World):
 Calls Tryz.prog 62 #[fmV z] w fun e w'=>e= .returned (fmV z)∧Below w.heap.size w w':=by
 unfold fmV
 go_enter Tryz.func62,Tryz.ntmps62
 go_wp2
 exact bodyPost_ret (v:= .agg #[.int .i64 z.c,.int .i64 z.r]) (by simp[results,Tryz.results62,go_sem]) rfl ⟨rfl,(((ξb _ _).alloc (ξr _) _).alloc (by simp) _).alloc (by simp;omega) _⟩
theorem eqFormat_same (z:Fmt) (w:World):
 Calls Tryz.prog 68 #[fmV z,fmV z] w fun e w'=>e= .returned (.bool true)∧Below w.heap.size w w':=by
 have n0:(z.c != z.c)=false:=by simp
 have n1:(z.r != z.r)=false:=by simp
 have HB:=ξh (((ξb w.heap.size w).alloc (ξr _) (.cells #[.int .i64 z.c,.int .i64 z.r] 101)).alloc (by simp) (.cells #[.int .i64 z.c,.int .i64 z.r] 101))
 unfold fmV
 go_enter Tryz.func68,Tryz.ntmps68
 go_wp2
 go_ret
 exact⟨rfl,HB.out⟩
theorem Tryz.infoFormat:(Tryz.prog.info? 101).map (fun i=>(i.zero,i.size,i.bytes))=some (some (.agg #[.int .i64 0,.int .i64 0]),2,16):=by kernel_rfl
theorem toFormatS_any (v:Value) (zs:List Fmt) (w:World) (h:Rwt w (flt 2 fmE zs) v) (hr:zs.length≤1048576):
 Calls Tryz.prog 17 #[v] w fun e w'=>∃v',e= .returned v'∧Ofr w' w.heap.size (flt 2 fmE zs) v'∧Below w.heap.size w w':=by
 obtain⟨i0,hi,hz0,hz1,hz2⟩:=info_parts Tryz.infoFormat
 obtain⟨a,n,cap,rfl,HN,hn,ha⟩:=flt_opnw (m:=2) (enc:=fmE) (fun _=>rfl) (by omega) nilFm h
 have HA:=ξh ha
 have HL:=ξh (fun k hk=>fillG_len nilFm zs n k HN.out hk)
 have HST:=ξh (fun k hk=>fillG_step nilFm zs n k HN.out hk)
 have HAL:=ξh (fillG_all nilFm zs n HN.out)
 rw[HN.out] at hr
 clear ha h
 go_enter Tryz.func17,Tryz.ntmps17
 go_wp2_with (refine wpList_make_full _ rfl _ _ 37 rfl w.heap.size 101 i0 (.agg #[.int .i64 0,.int .i64 0]) 2 Tryz.underlying37 hi hz0 hz1 _ _ _ _ n rfl rfl rfl rfl (by rw[hz2];omega) (by unfold maxLen;omega) (ξr _) ?_;intro w1 hown1 hgrow1)
 have HO1:=ξh (show Ofr w1 w.heap.size (flt 2 fmE (fillG nilFm zs n 0)) (.slice (some ⟨w.heap.size,0,none⟩) n n) from by
  rw[fillG_zero]
  exact made_flat (enc:=fmE) (fun _=>rfl) (by omega) nilFm rfl hown1)
 have HB1:=ξh (show Below w.heap.size w w1 from(ξb _ _).grown hgrow1 (ξr _) (by simp))
 clear hown1 hgrow1
 go_loopw [4] (fun i wr=>∃k:Nat,k≤n∧i= .int .i64 k∧Hid (Ofr wr w.heap.size (flt 2 fmE (fillG nilFm zs n k)) (.slice (some ⟨w.heap.size,0,none⟩) n n))∧Hid (Below w.heap.size w wr)) (fun i _=>n-(intOf i).toNat)
 case atStart=>exact⟨0,by omega,rfl,HO1.out,HB1.out⟩
 case round=>
  obtain⟨k,hk,rfl,HO,HB⟩:=hrel
  by_cases hlt:k<n
  · obtain⟨b,off,rfl,hbs,hcs⟩:=HA.out (by omega)
    have hltI:(k:Int)<(n:Int):=by omega
    have d0:=(HB.out.cell (p:=⟨b,off+k*2+0,none⟩) hbs).trans (hcs k hlt 0 _ rfl)
    have d1:=(HB.out.cell (p:=⟨b,off+k*2+1,none⟩) hbs).trans (hcs k hlt 1 _ rfl)
    simp only[Nat.add_zero] at d0
    have HS:=ξh (fun w=>toFormat_any (zs[k]?.getD nilFm) w)
    have HSK:=ξh (HST.out k hlt)
    have HLK:=ξh (HL.out k (by omega))
    clear hcs HO1 HB1
    unfold fmV at HS
    generalize zs[k]?.getD nilFm=z at *
    go_wp2_with fail
    refine(HS.out _).mono ?_
    rintro e w2 ⟨rfl,b2⟩
    obtain⟨g,o,cp,ev,hg1,hg2,hcc,hfz,hof⟩:=flt_put (enc:=fmE) (m:=2) (fun _=>rfl) (by omega) (HO.out.below b2) (ξs HB.out.size b2.size) (k:=k) (by rw[HLK.out];exact hlt) z
    simp only[Value.slice.injEq,Option.some.injEq,Addr.mk.injEq,and_true] at ev
    obtain⟨⟨rfl,rfl⟩,-,rfl⟩:=ev
    rw[HSK.out] at hof
    simp only[Nat.zero_add] at hcc hof
    obtain⟨q0,c0⟩:=hcc 0 (by omega)
    obtain⟨q1,c1⟩:=hcc 1 (by omega)
    simp only[Nat.add_zero] at c0
    have f0:=hfz (k*2+0)
    have f1:=hfz (k*2+1)
    simp only[Nat.add_zero] at f0
    have HB2:=ξh (setRow_below (ξr w.heap.size) (fmE z) w2 (k*2) (HB.out.trans (b2.mono HB.out.size)))
    simp only[setRow,fmE] at hof HB2
    have HOF:=ξh hof
    clear hof b2 hfz hcc
    go_wp2
    go_roundw
    case rel=>exact⟨k+1,by omega,by go_num,HOF.out,HB2.out⟩
    case measure=>simp[intOf];omega
  · obtain rfl:k=n:=by omega
    have hof:=HO.out
    rw[HAL.out] at hof
    have HOF:=ξh hof
    go_wp2
    go_ret
    exact⟨_,rfl,HOF.out,HB.out⟩
theorem eqFormatS_same (va vb:Value) (zs:List Fmt) (w:World) (ha:Rdt w (flt 2 fmE zs) va) (hb:Rdt w (flt 2 fmE zs) vb):
 Calls Tryz.prog 21 #[va,vb] w fun e w'=>e= .returned (.bool true)∧Below w.heap.size w w':=by
 obtain⟨a,n,ca,rfl,HN,_,hn,HA⟩:=flt_opn (m:=2) (enc:=fmE) (fun _=>rfl) (by omega) nilFm ha
 obtain⟨b,n2,cb,rfl,HM,_,_,HBB⟩:=flt_opn (m:=2) (enc:=fmE) (fun _=>rfl) (by omega) nilFm hb
 obtain rfl:n=n2:=HN.out.symm.trans HM.out
 have HA:=ξh HA
 have HBB:=ξh HBB
 clear HM ha hb
 have hne:((n:Int) != (n:Int))=false:=by simp
 go_enter Tryz.func21,Tryz.ntmps21
 go_wp2
 go_loopw [5] (fun i wr=>∃k:Nat,k≤n∧i= .int .i64 k∧Hid (Below w.heap.size w wr)) (fun i _=>n-(intOf i).toNat)
 case atStart=>exact⟨0,by omega,rfl,ξb _ _⟩
 case round=>
  obtain⟨k,hk,rfl,HB⟩:=hrel
  by_cases hlt:k<n
  · obtain⟨g1,o1,rfl,hg1,hc1⟩:=HA.out (by omega)
    obtain⟨g2,o2,rfl,hg2,hc2⟩:=HBB.out (by omega)
    have hltI:(k:Int)<(n:Int):=by omega
    have x0:=rg ((HB.out.cell (p:=⟨g1,o1+k*2+0,none⟩) hg1).trans (hc1 k hlt 0 _ rfl))
    have y0:=rg ((HB.out.cell (p:=⟨g2,o2+k*2+0,none⟩) hg2).trans (hc2 k hlt 0 _ rfl))
    have x1:=rg ((HB.out.cell (p:=⟨g1,o1+k*2+1,none⟩) hg1).trans (hc1 k hlt 1 _ rfl))
    have y1:=rg ((HB.out.cell (p:=⟨g2,o2+k*2+1,none⟩) hg2).trans (hc2 k hlt 1 _ rfl))
    simp only[Nat.add_zero] at x0 y0
    have HQ:=ξh (fun w=>eqFormat_same (zs[k]?.getD nilFm) w)
    unfold fmV at HQ
    generalize zs[k]?.getD nilFm=z at *
    clear hc1 hc2
    go_wp2
    refine wp_region_quiet_below (by kernel_rfl) (by kernel_rfl) ?_
    repeat (go_big_quiet_step (first | (go_at_call 68;exact Calls.regrown_of (HQ.out _))))
    refine wpQuiet_nil ?_
    rintro _ ⟨⟨dq,osq⟩,rfl⟩
    go_wp2
    go_roundw
    case rel=>exact⟨k+1,by omega,by go_num,HB.out.trans ((below_regrown _ dq osq).mono HB.out.size)⟩
    case measure=>simp[intOf];omega
  · obtain rfl:k=n:=by omega
    go_wp2
    go_ret
    exact⟨rfl,HB.out⟩
theorem markFormatS_any (v:Value) (zs:List Fmt) (fp:List Nat) (q:Int) (w:World) (h:Odt w (flt 2 fmE zs) v fp) (hn:fp.Nodup) (hb:zs.length≤4194304) (hq:0≤q) (hq2:q≤1125899906842624):
 Calls Tryz.prog 35 #[v,.int .i64 q] w fun e w'=>e= .returned (.int .i64 (q+2*(zs.length:Int)))∧Odt w' (flt 2 fmE ((List.range zs.length).map fun i:Nat=>mkFmt (q+2*(i:Int)))) v fp∧Wr w w' fp:=by
 obtain⟨a,n,cap,rfl,HN,_,hnl,-⟩:=flt_opn (m:=2) (enc:=fmE) (fun _=>rfl) (by omega) nilFm h.rd
 obtain⟨f,hf⟩:∃f:Nat→Fmt,f=fun i:Nat=>mkFmt (q+2*(i:Int)):=⟨_,rfl⟩
 have HFE:=ξh (fun i=>congrFun hf i)
 rw[←hf,HN.out]
 rw[HN.out] at hb
 clear hf
 have HST:=ξh (fun k (h:k<n)=>mkG_step f zs k (by rw[HN.out];exact h))
 have HLN:=ξh (fun k (h:k≤n)=>(mkG_len f zs k (by rw[HN.out];exact h)).trans HN.out)
 have HALL:=ξh (mkG_all f zs n HN.out)
 have HH:=ξh h
 clear h
 go_enter Tryz.func35,Tryz.ntmps35
 go_wp2
 go_loopw [1,5] (fun x i wr=>∃k:Nat,k≤n∧i= .int .i64 k∧x= .int .i64 (q+2*(k:Int))∧Hid (Odt wr (flt 2 fmE (mkG f zs k)) (.slice a n cap) fp)∧Hid (Wr w wr fp)) (fun _ i _=>n-(intOf i).toNat)
 case atStart=>exact⟨0,by omega,rfl,int_eq (by simp),by rw[mkG_zero];exact HH.out,Wr.refl _ _⟩
 case round=>
  obtain⟨k,hk,rfl,rfl,HO,HW⟩:=hrel
  by_cases hlt:k<n
  · have hltI:(k:Int)<(n:Int):=by omega
    obtain⟨g,off,rfl,hcc,hfz,hset⟩:=flt_mark (enc:=fmE) (m:=2) (fun _=>rfl) (by omega) HO.out hn (k:=k) (by rw[HLN.out k (by omega)];exact hlt)
    obtain⟨s1,s2⟩:=hset (f k)
    rw[HST.out k hlt] at s1
    have hfk:=HFE.out k
    obtain⟨p,hp⟩:∃p:Int,p=q+2*(k:Int):=⟨_,rfl⟩
    have hp1:0≤p:=by omega
    have hp2:p≤1125899940397056:=by omega
    rw[←hp] at hfk ⊢
    have HP:=ξh hp
    clear hp
    rw[hfk] at s1 s2
    simp only[setRow,fmE,mkFmt] at s1 s2
    have HS1:=ξh s1
    have HS2:=ξh (HW.out.trans s2)
    obtain⟨q0,c0⟩:=hcc 0 (by omega)
    obtain⟨q1,c1⟩:=hcc 1 (by omega)
    have f0:=hfz (off+k*2+0)
    have f1:=hfz (off+k*2+1)
    simp only[Nat.add_zero] at c0 f0
    clear s1 s2 hset hcc hfz hfk
    go_wp2
    go_roundw
    case rel=>exact⟨k+1,by omega,by go_num,int_eq (by rw[HP.out];omega),HS1.out,HS2.out⟩
    case measure=>simp[intOf];omega
  · obtain rfl:k=n:=by omega
    have ho:=HO.out
    rw[HALL.out] at ho
    have HOF:=ξh ho
    clear HO ho
    go_wp2
    go_ret
    exact⟨rfl,HOF.out,HW.out⟩
theorem szFormatS_Q (v:Value) (zs:List Fmt) (l:Int) (w:World) (h:Rwt w (flt 2 fmE zs) v) (h0:0≤l) (h1:l≤1048576):Calls Tryz.prog 13 #[v,.int .i64 l] w (SzQ zs.length l w):=by
 refine(szFormatS_any v zs l w h h0 h1).mono ?_
 rintro e w' ⟨rfl,rfl⟩
 by_cases hx:l<(zs.length:Int)
 · rw[if_pos hx];exact⟨_,rfl,ξb _ _,.inl ⟨rfl,hx⟩⟩
 · rw[if_neg hx];exact⟨_,rfl,ξb _ _,.inr ⟨rfl,by omega⟩⟩
theorem toFormatS_P (v:Value) (zs:List Fmt) (w:World) (h:Rwt w (flt 2 fmE zs) v) (hr:zs.length≤1048576):Calls Tryz.prog 17 #[v] w (ToP (fun w' v' fp=>Odt w' (flt 2 fmE zs) v' fp) w):=by
 refine(toFormatS_any v zs w h hr).mono ?_
 rintro e w' ⟨v',rfl,⟨fp,h1,h2,h3⟩,hb⟩
 exact⟨v',fp,rfl,h1,h2,h3,hb⟩
theorem markFormatS_N (v:Value) (zs:List Fmt) (fp:List Nat) (q:Nat) (w:World) (h:Odt w (flt 2 fmE zs) v fp) (hn:fp.Nodup) (hb:zs.length≤1048576) (hq:0<q) (hq2:q≤1099511627776):
 Calls Tryz.prog 35 #[v,.int .i64 (q:Int)] w fun e w'=>e= .returned (.int .i64 ((q+2*zs.length:Nat):Int))∧Odt w' (flt 2 fmE ((List.range zs.length).map fun i:Nat=>mkFmt ((q:Int)+2*(i:Int)))) v fp∧Wr w w' fp:=by
 refine(markFormatS_any v zs fp q w h hn (by omega) (by omega) (by omega)).mono ?_
 rintro e w' ⟨rfl,h1,h2⟩
 exact⟨ret_int (by omega),h1,h2⟩
structure Els (w:World) (lo:Nat) (ds:List Dt) (us:List Value) (fs:List (List Nat)):Prop where
 ul:us.length=ds.length
 fl:fs.length=ds.length
 els:∀(j:Nat) (d:Dt) (u:Value) (f:List Nat),ds[j]?= some d→us[j]?= some u→fs[j]?= some f→Odt w d u f
 nd:fs.flatten.Nodup
 lo:∀k∈fs.flatten,lo≤k
theorem Els.lt {w:World} {lo:Nat} {ds:List Dt} {us:List Value} {fs:List (List Nat)} (h:Els w lo ds us fs):∀k∈fs.flatten,k<w.heap.size:=Grw.flt h.ul h.fl h.els
theorem Ofr.els {w:World} {base size:Nat} {ds:List Dt} {v:Value} (h:Ofr w base (.rows size ds) v) (hne:v≠ .slice none 0 0):∃g off n cap us fs,v= .slice (some ⟨g,off,none⟩) n cap∧us.length=n*size∧n≤cap∧n≤maxLen∧base≤g∧g<w.heap.size∧Els w base ds us fs∧g ∉ fs.flatten∧ ∀j u,us[j]?= some u→w.cell? ((⟨g,off,none⟩:Addr).add j)=some u:=by
 obtain⟨fp,h1,h2,h3⟩:=h
 cases h1 with
 | nil size=>exact absurd rfl hne
 | @mk size n g off cap ds us fs cur T hl hus hf hn hc hg hcs ht hd=>
   obtain⟨hgn,hfn⟩:=List.nodup_cons.1 h2
   refine⟨g,off,n,cap,us,fs,rfl,by omega,hn,by omega,h3 g (by simp),(ξa hg).1,⟨hus,hf,hd,hfn,fun k hk=>h3 k (List.mem_cons_of_mem _ hk)⟩,hgn,fun j u hj=> ?_⟩
   rw[show(⟨g,off,none⟩:Addr).add j=⟨g,off+j,none⟩ by simp[Addr.add]]
   exact row_cell hg ht hj (by omega)
theorem tb8 {a:Nat} (y:Nat) (ha:a<256) (j:Nat):(a+256*y).testBit j=if j<8 then a.testBit j else y.testBit (j-8):=by
 have:=Nat.testBit_two_pow_mul_add y (show a<2 ^ 8 from ha) j
 rw[←this,Nat.add_comm]
theorem and8 {a m:Nat} (y M:Nat) (ha:a<256) (hm:m<256):(a+256*y) &&& (m+256*M)=(a &&& m)+256*(y &&& M):=by
 apply Nat.eq_of_testBit_eq
 intro i
 rw[Nat.testBit_and,tb8 y ha,tb8 M hm,tb8 _ (show a &&& m<256 from Nat.and_lt_two_pow (n:=8) _ hm)]
 split <;> rw[Nat.testBit_and]
def q1 (a:Nat):Nat:=(a/2 &&& 85)+(a &&& 85)
def q2 (a:Nat):Nat:=(a/4 &&& 51)+(a &&& 51)
def q3 (a:Nat):Nat:=(a/16+a) &&& 15
theorem e1:∀a:Fin 256,∀e:Fin 2,(a.val/2+128*e.val) &&& 85=a.val/2 &&& 85:=by decide +kernel
theorem e2:∀a:Fin 256,∀e:Fin 4,(a.val/4+64*e.val) &&& 51=a.val/4 &&& 51:=by decide +kernel
theorem e3:∀a:Fin 256,∀e:Fin 8,a.val≤102→(a.val/16+16*e.val+a.val) &&& 15=(a.val/16+a.val) &&& 15:=by decide +kernel
abbrev by3 (a b c:Nat):Nat:=a+256*(b+256*c)
theorem and3 {a b c m:Nat} (M:Nat) (ha:a<256) (hb:b<256) (hc:c<256) (hm:m<256):by3 a b c &&& (m+256*(m+256*(m+256*M)))=by3 (a &&& m) (b &&& m) (c &&& m):=by
 have h:=and8 0 M hc hm
 rw[Nat.mul_zero,Nat.add_zero,Nat.zero_and,Nat.mul_zero,Nat.add_zero] at h
 unfold by3
 rw[and8 _ _ ha hm,and8 _ _ hb hm,h]
theorem st1 {a b c:Nat} (ha:a<256) (hb:b<256) (hc:c<256):(by3 a b c/2 &&& 6148914691236517205)+(by3 a b c &&& 6148914691236517205)=by3 (q1 a) (q1 b) (q1 c):=by
 have x1:=e1 ⟨a,ha⟩ ⟨b%2,by omega⟩
 have x2:=e1 ⟨b,hb⟩ ⟨c%2,by omega⟩
 simp only at x1 x2
 rw[show by3 a b c/2=by3 (a/2+128*(b%2)) (b/2+128*(c%2)) (c/2) by unfold by3;omega,
  show(6148914691236517205:Nat)=85+256*(85+256*(85+256*366503875925)) by omega]
 rw[and3 _ (by omega) (by omega) (by omega) (by omega),and3 _ ha hb hc (by omega),x1,x2]
 unfold by3 q1
 omega
theorem st2 {a b c:Nat} (ha:a≤170) (hb:b≤170) (hc:c≤170):(by3 a b c/4 &&& 3689348814741910323)+(by3 a b c &&& 3689348814741910323)=by3 (q2 a) (q2 b) (q2 c):=by
 have x1:=e2 ⟨a,by omega⟩ ⟨b%4,by omega⟩
 have x2:=e2 ⟨b,by omega⟩ ⟨c%4,by omega⟩
 simp only at x1 x2
 rw[show by3 a b c/4=by3 (a/4+64*(b%4)) (b/4+64*(c%4)) (c/4) by unfold by3;omega,
  show(3689348814741910323:Nat)=51+256*(51+256*(51+256*219902325555)) by omega]
 rw[and3 _ (by omega) (by omega) (by omega) (by omega),and3 _ (by omega) (by omega) (by omega) (by omega),x1,x2]
 unfold by3 q2
 omega
open Go.RowKit Go.Sort Go.Lib
def srt (xs:List Int):List Int:=xs.mergeSort fun x y=>decide (x≤y)
def cpt (xs:List Int):List Int:=Go.Lib.compact xs
def ust (xs:List Int):List Int:=cpt (srt xs)
theorem srt_len (xs:List Int):(srt xs).length=xs.length:=List.length_mergeSort _
theorem srt_mem {xs:List Int} {x:Int} :x∈srt xs↔x∈xs:=List.mem_mergeSort
theorem srt_sorted (xs:List Int):(srt xs).Pairwise (· ≤·):=by
 have:=List.pairwise_mergeSort (le:=fun x y:Int=>decide (x≤y)) (fun a b c h1 h2=>by simp at h1 h2 ⊢;omega) (fun a b=>by simp;omega) xs
 exact this.imp fun h=>by simpa using h
theorem cpt_len (xs:List Int):(cpt xs).length≤xs.length:=by
 unfold cpt compact compactUpTo
 rw[List.length_map]
 exact ξs (List.length_filter_le _ _) (by simp)
theorem getI {xs:List Int} {j:Nat} (h:j<xs.length):(xs.toArray)[j]! = xs[j]:=by simp[h]
theorem cpt_asc {xs:List Int} (h:xs.Pairwise (· ≤·)):(cpt xs).Pairwise (· < ·):=by
 unfold cpt compact compactUpTo
 rw[List.pairwise_map]
 have hr:((List.range xs.length).filter (keeps xs.toArray)).Pairwise (· < ·):=List.Pairwise.filter _ List.pairwise_lt_range
 refine hr.imp_of_mem (R:=(· < ·)) fun {a b} ha hb hab=> ?_
 rw[List.mem_filter,List.mem_range] at ha hb
 rw[getI ha.1,getI hb.1]
 have hk:=hb.2
 unfold keeps at hk
 simp only[decide_eq_true_eq] at hk
 rcases hk with hk | hk
 · omega
 rw[getI hb.1,getI (show b-1<xs.length by omega)] at hk
 have hp:=List.pairwise_iff_getElem.1 h
 have h1:xs[a]≤xs[b-1]'(by omega):=by
  by_cases e:a=b-1
  · subst e;exact Int.le_refl _
  · exact hp a (b-1) ha.1 (by omega) (by omega)
 have h2:xs[b-1]'(by omega)≤xs[b]:=hp (b-1) b (by omega) hb.1 (by omega)
 omega
theorem cpt_mem {xs:List Int} {x:Int} :x∈cpt xs↔x∈xs:=by
 unfold cpt compact compactUpTo
 rw[List.mem_map]
 constructor
 · rintro⟨j,hj,rfl⟩
   rw[List.mem_filter,List.mem_range] at hj
   rw[getI hj.1]
   exact List.getElem_mem hj.1
 · intro h
   obtain⟨j,hj,rfl⟩:=List.mem_iff_getElem.1 h
   have:∀j,∀hj:j<xs.length,∃i,∃hi:i<xs.length,keeps xs.toArray i=true∧xs[i]=xs[j]:=by
    intro j
    induction j with
    | zero=>intro hj;exact⟨0,hj,by simp[keeps],rfl⟩
    | succ j ih=>
      intro hj
      by_cases e:xs[j+1]=xs[j]'(by omega)
      · obtain⟨i,hi,h1,h2⟩:=ih (by omega)
        exact⟨i,hi,h1,by rw[h2,e]⟩
      · refine⟨j+1,hj,?_,rfl⟩
        unfold keeps
        rw[getI hj,getI (show j+1-1<xs.length by omega)]
        simp only[decide_eq_true_eq]
        exact .inr (by simpa using e)
   obtain⟨i,hi,h1,h2⟩:=this j hj
   exact⟨i,List.mem_filter.2 ⟨List.mem_range.2 hi,h1⟩,by rw[getI hi,h2]⟩
theorem ust_asc (xs:List Int):(ust xs).Pairwise (· < ·):=cpt_asc (srt_sorted xs)
theorem ust_mem {xs:List Int} {x:Int} :x∈ust xs↔x∈xs:=by unfold ust;rw[cpt_mem,srt_mem]
theorem ust_len (xs:List Int):(ust xs).length≤xs.length:=by unfold ust;exact ξs (cpt_len _) (by rw[srt_len];exact ξr _)
theorem asc_ext:∀{xs ys:List Int},xs.Pairwise (· < ·)→ys.Pairwise (· < ·)→(∀x,x∈xs↔x∈ys)→xs=ys
 | [],[],_,_,_=>rfl
 | [],y::ys,_,_,h=>by have:=(h y).2 (by simp);cases this
 | x::xs,[],_,_,h=>by have:=(h x).1 (by simp);cases this
 | x::xs,y::ys,hx,hy,h=>by
   obtain⟨hx1,hx2⟩:=List.pairwise_cons.1 hx
   obtain⟨hy1,hy2⟩:=List.pairwise_cons.1 hy
   have e:x=y:=by
    have h1:=(h x).1 (by simp)
    have h2:=(h y).2 (by simp)
    rcases List.mem_cons.1 h1 with e | e
    · exact e
    · rcases List.mem_cons.1 h2 with e2 | e2
      · exact e2.symm
      · have:=hy1 x e;have:=hx1 y e2;omega
   subst e
   congr 1
   refine asc_ext hx2 hy2 fun z=> ?_
   constructor
   · intro hz
     have hlt:=hx1 z hz
     rcases List.mem_cons.1 ((h z).1 (List.mem_cons_of_mem _ hz)) with e | e
     · omega
     · exact e
   · intro hz
     have hlt:=hy1 z hz
     rcases List.mem_cons.1 ((h z).2 (List.mem_cons_of_mem _ hz)) with e | e
     · omega
     · exact e
theorem ust_of {xs ys:List Int} (h:ys.Pairwise (· < ·)) (hm:∀x,x∈ys↔x∈xs):ust xs=ys:=asc_ext (ust_asc xs) h fun x=>by rw[ust_mem,hm]
/-! ### The cells -/
theorem Own.holds {w:World} {base g off n cap:Nat} {xs:List Int} (h:Own w base (.slice (some ⟨g,off,none⟩) n cap) xs):Holds (Value.int .i64) w g off xs.toArray:=by
 rcases h with ⟨e,_⟩ | ⟨g',off',cap',cur,e,hb,⟨T,hg⟩,h1,h2,h3,h4⟩
 · cases e
 · simp only[Value.slice.injEq,Option.some.injEq,Addr.mk.injEq,and_true] at e
   obtain⟨⟨rfl,rfl⟩,rfl,rfl⟩:=e
   intro j hj
   have hj':j<xs.length:=by simpa using hj
   refine⟨?_,ξz _ _ _ _ _ hg⟩
   rw[cell_of_row _ _ _ _ _ _ hg,←Array.getElem?_toList]
   have e:((cur.toList.drop off).take xs.length)[j]?= (ints xs)[j]?:=by rw[h4]
   rw[List.getElem?_take,if_pos hj',List.getElem?_drop] at e
   rw[e]
   simp[hj']
theorem heap_putRow {w:World} {g off n:Nat} {os:Array Obj} {cur:Array Value} {e:TypeId} {fr:Nat × Nat} (d:Array Int) (hb:w.heap[g]?= some (.cells cur e fr)):
 (grow (putRow (Value.int .i64) (Sort.ahead w n) g off d) os).heap[g]?= some (.cells (putCells (Value.int .i64) off d cur) e fr):=by
 have hg:g<w.heap.size:=(ξa hb).1
 rw[heap_grow_old _ _ (by simpa using hg)]
 simp[putRow,mapBlock,Sort.ahead,Array.getElem?_modify,hb,onCells]
theorem grownBy_putRow {w:World} {g off n:Nat} {os:Array Obj} (d:Array Int):w.grownBy (grow (putRow (Value.int .i64) (Sort.ahead w n) g off d) os) (some g):=by
 refine⟨rfl,rfl,rfl,by simp,fun k hk hne=> ?_⟩
 rw[heap_grow_old _ _ (by simpa using hk)]
 have:g≠k:=fun e=>hne (by rw[e])
 simp[putRow,mapBlock,Sort.ahead,Array.getElem?_modify,this]
theorem drop_putCells (cur:Array Value) (ts:List Int) (off m:Nat) (h:off+ts.length≤cur.size) (hm:m≤ts.length):((putCells (Value.int .i64) off ts.toArray cur).toList.drop off).take m=ints (ts.take m):=by
 apply List.ext_getElem?
 intro j
 by_cases hj:j<m
 · rw[List.getElem?_take_of_lt hj,List.getElem?_drop,Array.getElem?_toList]
   simp[putCells,hj,show off+j<cur.size by omega,show j<ts.length by omega]
 · rw[List.getElem?_take_eq_none (by omega),List.getElem?_eq_none (by simp;omega)]
theorem Own.putRow {w:World} {base g off n cap q m:Nat} {xs ts:List Int} {os:Array Obj} (h:Own w base (.slice (some ⟨g,off,none⟩) n cap) xs) (hl:ts.length=xs.length) (hm:m≤ts.length):
 Own (grow (Sort.putRow (Value.int .i64) (Sort.ahead w q) g off ts.toArray) os) base (.slice (some ⟨g,off,none⟩) m cap) (ts.take m):=by
 rcases h with ⟨e,_⟩ | ⟨g',off',cap',cur,e,hb,⟨T,hg⟩,h1,h2,h3,h4⟩
 · cases e
 · simp only[Value.slice.injEq,Option.some.injEq,Addr.mk.injEq,and_true] at e
   obtain⟨⟨rfl,rfl⟩,rfl,rfl⟩:=e
   have hml:(ts.take m).length=m:=by rw[List.length_take];omega
   refine .inr ⟨g,off,cap,_,by rw[hml],hb,⟨T,heap_putRow _ hg⟩,by rw[hml];omega,h2,by simp[putCells];omega,?_⟩
   rw[hml]
   exact drop_putCells cur ts off m (by omega) hm
section
variable {α : Type}
def rws (m:Nat) (en:α→List Dt) (zs:List α):Dt:= .rows m (zs.flatMap en)
theorem rws_len {en:α→List Dt} {m:Nat} (hm:∀z,(en z).length=m) (zs:List α):(zs.flatMap en).length=zs.length*m:=flat_length hm zs
theorem rws_at {en:α→List Dt} {m:Nat} (hm:∀z,(en z).length=m) (nil:α) (zs:List α) {i r:Nat} (hi:i<zs.length) (hr:r<m):(zs.flatMap en)[i*m+r]?= (en (zs[i]?.getD nil))[r]?:=by
 rw[flat_at hm zs i r hr,ξg hi];rfl
theorem rws_opn {en:α→List Dt} {m:Nat} {w:World} {v:Value} {zs:List α} (hm:∀z,(en z).length=m) (hm0:0<m) (nil:α) (h:Rdt w (rws m en zs) v):
 ∃a n cap,v= .slice a n cap∧Hid (zs.length=n)∧n≤cap∧n≤9223372036854775807∧
 (0<n→ ∃b off,a=some ⟨b,off,none⟩∧b<w.heap.size∧ ∀i,i<n→ ∀r d,(en (zs[i]?.getD nil))[r]?= some d→ ∃u,w.cell? ⟨b,off+i*m+r,none⟩=some u∧Rdt w d u):=by
 obtain⟨a,n,cap,hv,HN,h1,h2,h3⟩:=h.opn
 have hn:zs.length=n:=by
  have:=HN.out
  rw[rws_len hm] at this
  exact Nat.eq_of_mul_eq_mul_right hm0 this
 refine⟨a,n,cap,hv,hn,h1,h2,fun h0=> ?_⟩
 obtain⟨b,off,ea,hb,hc⟩:=h3 h0
 refine⟨b,off,ea,hb,fun i hi r d hd=> ?_⟩
 have hr:r<m:=by rw[←hm (zs[i]?.getD nil)];exact(ξl hd).1
 obtain⟨u,k1,k2⟩:=hc (i*m+r) d (by rw[rws_at hm nil zs (by omega) hr];exact hd)
 exact⟨u,by rw[Nat.add_assoc];exact k1,k2⟩
end
end Go.Proofs.YtofcicomhnkocaaGreat
