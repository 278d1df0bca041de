/- Joined: XNetS XFlu XMid XNumP XLnw XLal XExa XIss XAlbP XPsh XAlbQ XSrtW XAlbW XAlbV. -/
import Derived.Test.YtmkkdenhjfjmgaaGreatBf03
import Derived.Test.YtmkkdenhjfjmgaaGreatBf02
import Derived.OwnWalk
import Derived.Deep.MidRow
import Derived.WalkKit
import Derived.Lib.Hide
import Derived.Test.YtmkkdenhjfjmgaaGreatBf01
import Derived.Lib.ItoaNum
import Derived.Laws.IdiomStrings
import Derived.ArgAppend
import Derived.Test.YtmkkdenhjfjmgaaGreatShelf
import Derived.Lib.QuietBelow
import Derived.StillTailTactics
import Derived.Deep.RegionLaw
import Derived.Laws.AppendOwnNone
namespace Go.Proofs.YtmkkdenhjfjmgaaGreat
open Go.RowKit Go.Sort
set_option maxRecDepth 100000

set_option maxHeartbeats 6400000 in
theorem l2Good_any (v : Value) (n : Net) (w : World) (h : NetR w v n) :
    Calls Tryz.prog 139 #[v] w fun e w' => e = .returned (.bool (netOk n)) ∧ Below w.heap.size w w' := by
  obtain ⟨u1, u2, rfl, r1, r2, hsm⟩ := h
  obtain ⟨a1, m1, c1, rfl, HN1, hc1, hm1, ha1⟩ := flt_opn (m := 1) (enc := strE) (fun _ => rfl) (by omega) nilS r1
  obtain ⟨a2, m2, c2, rfl, HN2, hc2, hm2, ha2⟩ := flt_opn (m := 4) (enc := fibE) (fun _ => rfl) (by omega) nilB r2
  have HNM := Lib.hid (fun i hi h => @netOk_nm n i hi h)
  have HFB := Lib.hid (fun i hi h => @netOk_fb n i hi h)
  have HALL := Lib.hid (@netOk_all n)
  have HSZ := Lib.hid (@netOk_sz n)
  rw [HN1.out, HN2.out] at HALL HSZ
  rw [HN1.out] at HNM
  rw [HN2.out] at HFB
  generalize netOk n = q at *
  obtain ⟨bx, bc, blt, -⟩ := box_facts w #[.slice a1 m1 c1, .slice a2 m2 c2] 35
  have q0 := bc 0 _ rfl
  have q1 := bc 1 _ rfl
  have HA1 := Lib.hid ha1
  have HA2 := Lib.hid ha2
  have HR1 := Lib.hid (r1.behind bx)
  have HBX := Lib.hid bx
  have HSM := Lib.hid hsm
  clear bc ha1 ha2 r1 r2 bx hsm
  go_enter Tryz.func139, Tryz.ntmps139
  by_cases hsz : 2 ≤ m1 ∧ m1 ≤ 8 ∧ m2 ≤ 14
  case neg =>
    have HF := Lib.hid (HSZ.out hsz)
    by_cases h1 : 2 ≤ m1 ∧ m1 ≤ 8
    · have hin : inB (m1 : Int) 2 8 = true := by unfold inB; simp; omega
      have hd : decide (14 < (m2 : Int)) = true := decide_eq_true (by omega)
      have hd2 : decide (14 < m2) = true := decide_eq_true (by omega)
      clear hsz h1
      go_wp2_with (go_at_call 86; refine (l1In_any _ _ _ _).mono ?_; rintro e w' ⟨rfl, rfl⟩; rw [hin])
      go_ret
      exact ⟨by rw [HF.out]; rfl, HBX.out⟩
    · have hin : inB (m1 : Int) 2 8 = false := by
        by_cases h2 : 2 ≤ m1
        · unfold inB; simp; omega
        · unfold inB; simp; omega
      clear hsz h1
      go_wp2_with (go_at_call 86; refine (l1In_any _ _ _ _).mono ?_; rintro e w' ⟨rfl, rfl⟩; rw [hin])
      go_ret
      exact ⟨by rw [HF.out]; rfl, HBX.out⟩
  have hin : inB (m1 : Int) 2 8 = true := by unfold inB; simp; omega
  have hd : decide (14 < (m2 : Int)) = false := decide_eq_false (by omega)
  have hd2 : decide (14 < m2) = false := decide_eq_false (by omega)
  obtain ⟨z1, z2, z3⟩ := hsz
  rw [decide_eq_true (show 2 ≤ m1 ∧ m1 ≤ 8 ∧ m2 ≤ 14 from ⟨z1, z2, z3⟩)] at HALL
  clear HSZ
  go_wp2_with (go_at_call 86; refine (l1In_any _ _ _ _).mono ?_; rintro e w' ⟨rfl, rfl⟩; rw [hin])
  generalize w.alloc (.cells #[.slice a1 m1 c1, .slice a2 m2 c2] 35) = w1 at *
  clear hin hd hd2
  go_loopw [3] (fun i wr => ∃ k : Nat, k ≤ m1 ∧ i = .int .i64 k ∧ Hid (∀ i, i < k → nmOk n i = true) ∧ Hid (Below w1.heap.size w1 wr)) (fun i _ => m1 - (intOf i).toNat)
  case atStart => exact ⟨0, Nat.zero_le _, rfl, fun i hi => by omega, Below.refl _ _⟩
  case round =>
    obtain ⟨k, hk, rfl, HK, HB⟩ := hrel
    have p0 := (HB.out.cell blt).trans q0
    have p1 := (HB.out.cell blt).trans q1
    by_cases hlt : k < m1
    · have hltI : (k : Int) < (m1 : Int) := by omega
      have hkx : k < n.ns.length := by rw [HN1.out]; exact hlt
      obtain ⟨b, off, rfl, hbs, hcs⟩ := HA1.out (by omega)
      have hc0 := hcs k hlt 0 _ rfl
      rw [Nat.mul_one, Nat.add_zero] at hc0
      have hcw := (HB.out.cell (p := ⟨b, off + k, none⟩) (Nat.lt_of_lt_of_le hbs HBX.out.size)).trans ((HBX.out.cell hbs).trans hc0)
      have HNA := Lib.hid (fun w => l2Name_any (nmA n k) w (Nat.le_trans (HSM.out k) (by decide)))
      have HFI := Lib.hid (fun d os => l2Find_any _ n.ns (nmA n k) _ ((HR1.out.behind HB.out).rg d os))
      have HV := Lib.hid (show nmOk n k = (nameOk (nmA n k) && decide (plc n.ns (nmA n k) = (k : Int))) from rfl)
      have HST := Lib.hid (fun h => upto_succ HK.out (k := k) h)
      have HNO := Lib.hid (HNM.out k hlt)
      clear hcs hc0 hkx
      unfold nmA at *
      generalize hx : n.ns[k]?.getD nilS = x at *
      clear hx
      cases hN : nameOk x
      · have HF := Lib.hid (HNO.out (by rw [HV.out, hN]; rfl))
        clear HNO HST HV HFI
        rw [hN] at HNA
        clear hN
        go_wp2
        have j0 := rg p0
        have j1 := rg p1
        have j2 := rg hcw
        clear p0 p1 hcw
        refine wp_region_quiet_below (by kernel_rfl) (by kernel_rfl) ?_
        repeat (go_big_quiet_step (first | (go_at_call 183; exact rg_same (HNA.out _))))
        refine wpQuiet_nil ?_
        rintro _ ⟨⟨dq, osq⟩, rfl⟩
        go_wp2
        go_ret
        exact ⟨by rw [HF.out]; rfl, HBX.out.trans ((HB.out.mono HBX.out.size).trans ((below_regrown _ dq osq).mono (Nat.le_trans HBX.out.size HB.out.size)))⟩
      rw [hN] at HNA HV
      have HV2 := Lib.hid (show nmOk n k = decide (plc n.ns x = (k : Int)) by rw [HV.out]; simp)
      clear hN HV
      generalize plc n.ns x = pl at *
      have hne : (pl != (k : Int)) = !decide (pl = (k : Int)) := rfl
      cases hP : decide (pl = (k : Int))
      · have HF := Lib.hid (HNO.out (by rw [HV2.out, hP]))
        rw [hP] at hne
        have hne2 : (pl != (k : Int)) = true := hne
        clear HNO HST HV2 hP hne
        go_wp2
        have j0 := rg p0
        have j1 := rg p1
        have j2 := rg hcw
        clear p0 p1 hcw
        refine wp_region_quiet_below (by kernel_rfl) (by kernel_rfl) ?_
        repeat (go_big_quiet_step (first | (go_at_call 183; exact rg_same (HNA.out _)) | (go_at_call 184; exact rg_same (HFI.out _ _))))
        refine wpQuiet_nil ?_
        rintro _ ⟨⟨dq, osq⟩, rfl⟩
        go_wp2
        go_ret
        exact ⟨by rw [HF.out]; rfl, HBX.out.trans ((HB.out.mono HBX.out.size).trans ((below_regrown _ dq osq).mono (Nat.le_trans HBX.out.size HB.out.size)))⟩
      · have HS := Lib.hid (HST.out (by rw [HV2.out, hP]))
        rw [hP] at hne
        have hne2 : (pl != (k : Int)) = false := hne
        clear HNO HST HV2 hP hne
        go_wp2
        have j0 := rg p0
        have j1 := rg p1
        have j2 := rg hcw
        clear p0 p1 hcw
        refine wp_region_quiet_below (by kernel_rfl) (by kernel_rfl) ?_
        repeat (go_big_quiet_step (first | (go_at_call 183; exact rg_same (HNA.out _)) | (go_at_call 184; exact rg_same (HFI.out _ _))))
        refine wpQuiet_nil ?_
        rintro _ ⟨⟨dq, osq⟩, rfl⟩
        go_wp2
        go_roundw
        case rel => exact ⟨k + 1, hlt, by go_num, HS.out, HB.out.trans ((below_regrown _ dq osq).mono HB.out.size)⟩
        case measure => simp [intOf]; omega
    · obtain rfl : m1 = k := by omega
      have HAL1 := Lib.hid (HALL.out HK.out)
      clear HALL HK HNM HR1
      go_wp2
      go_loopw [4] (fun i wr => ∃ k : Nat, k ≤ m2 ∧ i = .int .i64 k ∧ Hid (∀ i, i < k → fbOk n i = true) ∧ Hid (Below w1.heap.size w1 wr)) (fun i _ => m2 - (intOf i).toNat)
      case atStart => exact ⟨0, Nat.zero_le _, rfl, fun i hi => by omega, HB.out⟩
      case round =>
        clear HB p0 p1
        obtain ⟨k, hk, rfl, HK, HB⟩ := hrel
        have p0 := (HB.out.cell blt).trans q0
        have p1 := (HB.out.cell blt).trans q1
        by_cases hlt : k < m2
        · have hltI : (k : Int) < (m2 : Int) := by omega
          obtain ⟨b, off, rfl, hbs, hcs⟩ := HA2.out (by omega)
          have hcw := fun (i : Nat) (hi : i < m2) (r : Nat) (u : Value) (hu : (fibE (n.fs[i]?.getD nilB))[r]? = some u) => (HB.out.cell (p := ⟨b, off + i * 4 + r, none⟩) (Nat.lt_of_lt_of_le hbs HBX.out.size)).trans ((HBX.out.cell hbs).trans (hcs i hi r u hu))
          have HC := Lib.hid hcw
          have HST := Lib.hid (fun h => upto_succ HK.out (k := k) h)
          have HNO := Lib.hid (HFB.out k hlt)
          have HV := Lib.hid (show fbOk n k = (fibOk (fbA n k) n.ns.length && !(decide (0 < k) && fibGt (fbA n (k - 1)) (fbA n k))) from rfl)
          rw [HN1.out] at HV
          have c0 := hcw k hlt 0 _ rfl
          have c1 := hcw k hlt 1 _ rfl
          have c2 := hcw k hlt 2 _ rfl
          have c3 := hcw k hlt 3 _ rfl
          simp only [Nat.add_zero] at c0
          have j0 := rg c0
          have j1 := rg c1
          have j2 := rg c2
          have j3 := rg c3
          have j4 := rg p0
          have j5 := rg p1
          clear hcs hcw c0 c1 c2 c3
          unfold fbA at *
          have HFI := Lib.hid (fun w => l2Fiber_any (n.fs[k]?.getD nilB) m1 w (by omega))
          have HSMK := Lib.hid (fun h => @fibOk_small (n.fs[k]?.getD nilB) m1 h (by omega))
          generalize n.fs[k]?.getD nilB = f at *
          unfold fibV at HFI
          generalize hok : fibOk f m1 = ok at *
          cases ok
          · have HF := Lib.hid (HNO.out (by rw [HV.out]; rfl))
            clear hok HNO HST HV
            go_wp2
            clear p0 p1
            refine wp_region_quiet_below (by kernel_rfl) (by kernel_rfl) ?_
            repeat (go_big_quiet_step (first | (go_at_call 185; exact Calls.regrown_of (HFI.out _))))
            refine wpQuiet_nil ?_
            rintro _ ⟨⟨dq, osq⟩, rfl⟩
            go_wp2
            go_ret
            exact ⟨by rw [HF.out]; rfl, HBX.out.trans ((HB.out.mono HBX.out.size).trans ((below_regrown _ dq osq).mono (Nat.le_trans HBX.out.size HB.out.size)))⟩
          by_cases hk0 : k = 0
          · have hk0b : decide (0 < k) = false := decide_eq_false (by omega)
            have hk0c : decide (0 < (k : Int)) = false := decide_eq_false (by omega)
            have hv := HV.out
            rw [decide_eq_false (show ¬ 0 < k by omega)] at hv
            have HS := Lib.hid (HST.out (by rw [hv]; rfl))
            clear hok hk0 hv HV
            go_wp2
            clear p0 p1
            refine wp_region_quiet_below (by kernel_rfl) (by kernel_rfl) ?_
            repeat (go_big_quiet_step (first | (go_at_call 185; exact Calls.regrown_of (HFI.out _))))
            refine wpQuiet_nil ?_
            rintro _ ⟨⟨dq, osq⟩, rfl⟩
            go_wp2
            go_roundw
            case rel => exact ⟨k + 1, hlt, by go_num, HS.out, HB.out.trans ((below_regrown _ dq osq).mono HB.out.size)⟩
            case measure => simp [intOf]; omega
          · obtain ⟨k', hk'⟩ : ∃ k', k = k' + 1 := ⟨k - 1, by omega⟩
            have hgo := HK.out k' (by omega)
            have o0 := HC.out k' (by omega) 0 _ rfl
            have o1 := HC.out k' (by omega) 1 _ rfl
            have o2 := HC.out k' (by omega) 2 _ rfl
            have o3 := HC.out k' (by omega) 3 _ rfl
            simp only [Nat.add_zero] at o0
            have t0 := rg o0
            have t1 := rg o1
            have t2 := rg o2
            have t3 := rg o3
            have hsg : smallF (n.fs[k']?.getD nilB) := by
              unfold fbOk fbA at hgo
              rw [HN1.out] at hgo
              simp only [Bool.and_eq_true] at hgo
              exact fibOk_small hgo.1 (by omega)
            have HCF := Lib.hid (fun w => l2Before_any (n.fs[k']?.getD nilB) f w hsg (HSMK.out rfl))
            have HGT := Lib.hid (befF_gt (n.fs[k']?.getD nilB) f)
            have hv := HV.out
            rw [show k - 1 = k' by omega, decide_eq_true (show 0 < k by omega)] at hv
            have HV2 := Lib.hid hv
            clear hok hv HV o0 o1 o2 o3 hgo hsg HSMK
            generalize n.fs[k']?.getD nilB = g at *
            have hkp : (0 : Int) < (k : Int) := by omega
            have hkd : decide (0 < (k : Int)) = true := decide_eq_true hkp
            have hke : decide (0 < k) = true := decide_eq_true (by omega)
            have f1w : IntKind.i64.wrap ((k : Int) - 1) = (k' : Int) := by rw [IntWalk.i64_in _ (by omega)]; omega
            have f2w : (k' : Int) < (m2 : Int) := by omega
            clear hk' hk0
            unfold fibV at HCF
            generalize befF g f = cc at *
            cases hgt : fibGt g f
            · have HS := Lib.hid (HST.out (by rw [HV2.out, hgt]; simp))
              have hdc : decide (0 < cc) = false := by rw [HGT.out, hgt]
              clear hgt HNO HST HV2 HGT
              go_wp2
              clear p0 p1
              refine wp_region_quiet_below (by kernel_rfl) (by kernel_rfl) ?_
              repeat (go_big_quiet_step (first | (go_at_call 185; exact Calls.regrown_of (HFI.out _)) | (go_at_call 186; exact Calls.regrown_of (HCF.out _))))
              refine wpQuiet_nil ?_
              rintro _ ⟨⟨dq, osq⟩, rfl⟩
              go_wp2
              go_roundw
              case rel => exact ⟨k + 1, hlt, by go_num, HS.out, HB.out.trans ((below_regrown _ dq osq).mono HB.out.size)⟩
              case measure => simp [intOf]; omega
            · have HF := Lib.hid (HNO.out (by rw [HV2.out, hgt]; simp))
              have hdc : decide (0 < cc) = true := by rw [HGT.out, hgt]
              clear hgt HNO HST HV2 HGT
              go_wp2
              clear p0 p1
              refine wp_region_quiet_below (by kernel_rfl) (by kernel_rfl) ?_
              repeat (go_big_quiet_step (first | (go_at_call 185; exact Calls.regrown_of (HFI.out _)) | (go_at_call 186; exact Calls.regrown_of (HCF.out _))))
              refine wpQuiet_nil ?_
              rintro _ ⟨⟨dq, osq⟩, rfl⟩
              go_wp2
              go_ret
              exact ⟨by rw [HF.out]; rfl, HBX.out.trans ((HB.out.mono HBX.out.size).trans ((below_regrown _ dq osq).mono (Nat.le_trans HBX.out.size HB.out.size)))⟩
        · obtain rfl : m2 = k := by omega
          have HE := Lib.hid (HAL1.out HK.out)
          go_wp2
          go_ret
          exact ⟨by rw [HE.out]; rfl, HBX.out.trans (HB.out.mono HBX.out.size)⟩
end Go.Proofs.YtmkkdenhjfjmgaaGreat
namespace Go.Proofs.YtmkkdenhjfjmgaaGreat
open Go.RowKit

theorem kept_o' {X Y : World} {b : Nat} {x : Obj} (h : X.heap[b]? = some x) (hb : Below X.heap.size X Y) : Y.heap[b]? = some x := by
  rw [hb.block b (Array.getElem?_eq_some_iff.1 h).1]; exact h
section
variable {α : Type}
end
end Go.Proofs.YtmkkdenhjfjmgaaGreat
namespace Go.Proofs.YtmkkdenhjfjmgaaGreat
open Go.RowKit

/-- What a store into block b leaves. -/
structure Stx (w w' : World) (b : Nat) (new : Array Value) (T : TypeId) : Prop where
  blk : w'.heap[b]? = some (.cells new T (0, 0))
  other : ∀ k, k ≠ b → w'.heap[k]? = w.heap[k]?
  size : w'.heap.size = w.heap.size
  below : ∀ (B : Nat) (u : World), B ≤ b → Below B u w → Below B u w'
theorem Stx.ofr {w w' : World} {b base : Nat} {new : Array Value} {T : TypeId} {d : Dt} {v : Value} (h : Stx w w' b new T) (ho : Ofr w base d v) (hb : b < base) : Ofr w' base d v := by
  obtain ⟨fp, h1, h2, h3⟩ := ho
  exact ⟨fp, h1.kept fun k hk => h.other k (by have := h3 k hk; omega), h2, h3⟩
theorem Stx.kept {w w' : World} {b : Nat} {new : Array Value} {T : TypeId} (h : Stx w w' b new T) (p : Addr) (hp : p.block ≠ b) : w'.cell? p = w.cell? p := by
  unfold World.cell?
  rw [h.other _ hp]
theorem Stx.odt {w w' : World} {b : Nat} {new : Array Value} {T : TypeId} {d : Dt} {v : Value} {fp : List Nat} (h : Stx w w' b new T) (ho : Odt w d v fp) (hb : b ∉ fp) : Odt w' d v fp :=
  ho.kept fun k hk => h.other k (fun e => hb (by rw [← e]; exact hk))
end Go.Proofs.YtmkkdenhjfjmgaaGreat
namespace Go.Proofs.YtmkkdenhjfjmgaaGreat
open Go.RowKit

abbrev mk (l : List UInt8) : ByteArray := ⟨l.toArray⟩
end Go.Proofs.YtmkkdenhjfjmgaaGreat
namespace Go.Proofs.YtmkkdenhjfjmgaaGreat
open Go.RowKit Go.Sort
set_option maxRecDepth 100000

def NetSm (n : Net) : Prop := ∀ i : Nat, (nmA n i).size ≤ 1048576
/-- The value of an argument reads as the network. -/
def NetW (w : World) (v : Value) (n : Net) : Prop := ∃ u1 u2, v = .agg #[u1, u2] ∧ Rwt w (flt 1 strE n.ns) u1 ∧ Rwt w (flt 4 fibE n.fs) u2 ∧ ∀ i : Nat, (nmA n i).size ≤ maxLen
theorem NetW.behind {w w' : World} {v : Value} {n : Net} (h : NetW w v n) (hb : Below w.heap.size w w') : NetW w' v n := by
  obtain ⟨u1, u2, e, h1, h2, h3⟩ := h; exact ⟨u1, u2, e, h1.behind hb, h2.behind hb, h3⟩
/-- The value is the network, in these blocks of the call's own. -/
def NetO (w : World) (n : Net) (v : Value) (fp : List Nat) : Prop := ∃ u1 u2 f1 f2, v = .agg #[u1, u2] ∧ Odt w (flt 1 strE n.ns) u1 f1 ∧ Odt w (flt 4 fibE n.fs) u2 f2 ∧ fp = f1 ++ f2
theorem NetO.rd {w : World} {n : Net} {v : Value} {fp : List Nat} (h : NetO w n v fp) (hs : NetSm n) : NetR w v n := by
  obtain ⟨u1, u2, f1, f2, e, h1, h2, _⟩ := h; exact ⟨u1, u2, e, h1.rd, h2.rd, hs⟩
theorem NetO.behind {w w' : World} {n : Net} {v : Value} {fp : List Nat} (h : NetO w n v fp) (hb : Below w.heap.size w w') : NetO w' n v fp := by
  obtain ⟨u1, u2, f1, f2, e, h1, h2, e2⟩ := h; exact ⟨u1, u2, f1, f2, e, h1.behind hb, h2.behind hb, e2⟩
theorem NetO.apart {w w' : World} {n : Net} {v : Value} {fp fq : List Nat} (h : NetO w n v fp) (hw : Wr w w' fq) (hd : ∀ k ∈ fp, k ∉ fq) : NetO w' n v fp := by
  obtain ⟨u1, u2, f1, f2, e, h1, h2, rfl⟩ := h
  exact ⟨u1, u2, f1, f2, e, h1.apart hw (fun k hk => hd k (List.mem_append_left _ hk)), h2.apart hw (fun k hk => hd k (List.mem_append_right _ hk)), rfl⟩
theorem NetO.lt {w : World} {n : Net} {v : Value} {fp : List Nat} (h : NetO w n v fp) : ∀ k ∈ fp, k < w.heap.size := by
  obtain ⟨u1, u2, f1, f2, e, h1, h2, rfl⟩ := h
  intro k hk
  rcases List.mem_append.1 hk with hk | hk
  · exact h1.lt k hk
  · exact h2.lt k hk
theorem Rwt.slice {w : World} {size : Nat} {ds : List Dt} {v : Value} (h : Rwt w (.rows size ds) v) : ∃ a n cap, v = .slice a n cap := by
  obtain ⟨a, n, cap, e, _⟩ := h.opn; exact ⟨a, n, cap, e⟩
theorem Rdt.slice {w : World} {size : Nat} {ds : List Dt} {v : Value} (h : Rdt w (.rows size ds) v) : ∃ a n cap, v = .slice a n cap := by
  obtain ⟨a, n, cap, e, _⟩ := h.opn; exact ⟨a, n, cap, e⟩
theorem NetO.form {w : World} {n : Net} {v : Value} {fp : List Nat} (h : NetO w n v fp) : ∃ a1 n1 c1 a2 n2 c2, v = .agg #[.slice a1 n1 c1, .slice a2 n2 c2] := by
  obtain ⟨u1, u2, f1, f2, rfl, h1, h2, _⟩ := h
  obtain ⟨a1, n1, c1, rfl⟩ := Rdt.slice (show Rdt w (.rows _ _) u1 from h1.rd)
  obtain ⟨a2, n2, c2, rfl⟩ := Rdt.slice (show Rdt w (.rows _ _) u2 from h2.rd)
  exact ⟨_, _, _, _, _, _, rfl⟩
end Go.Proofs.YtmkkdenhjfjmgaaGreat
namespace Go.Proofs.YtmkkdenhjfjmgaaGreat
open Go.RowKit Go.Sort
set_option maxRecDepth 100000

structure Alm where
  t : Int
  l : Int
def nilA : Alm := ⟨0, 0⟩
end Go.Proofs.YtmkkdenhjfjmgaaGreat
namespace Go.Proofs.YtmkkdenhjfjmgaaGreat
open Go.RowKit Go.Sort
set_option maxRecDepth 100000

theorem Own.odt {w : World} {base : Nat} {v : Value} {xs : List Int} (h : Own w base v xs) : Odt w (inD xs) v v.ownBlock.toList := by
  obtain ⟨fp, h1, h2, h3⟩ := h.tree
  have : fp = v.ownBlock.toList := by
    unfold inD at h1
    generalize hD : (xs.map fun x => Dt.leaf (.int .i64 x)) = ds at h1
    cases h1 with
    | nil size => rfl
    | @mk size n g off cap ds us fs cur T hl hu hf hn hc hg hcs ht hd =>
      have : fs.flatten = [] := by
        rw [List.flatten_eq_nil_iff]
        intro f hf'
        obtain ⟨j, hj, rfl⟩ := List.mem_iff_getElem.1 hf'
        have hjd : j < ds.length := by omega
        have h1 := hd j ds[j] us[j] fs[j] (List.getElem?_eq_getElem hjd) (List.getElem?_eq_getElem (by omega)) (List.getElem?_eq_getElem hj)
        have hx : j < xs.length := by rw [← hD] at hjd; simpa using hjd
        have e : ds[j] = .leaf (.int .i64 xs[j]) := by simp [← hD]
        rw [e] at h1
        exact h1.leaf_inv.2
      rw [this]; rfl
  rw [← this]; exact h1
end Go.Proofs.YtmkkdenhjfjmgaaGreat
namespace Go.Proofs.YtmkkdenhjfjmgaaGreat
open Go.RowKit Go.Sort
set_option maxRecDepth 100000

def ssD (xss : List (List Int)) : Dt := .rows 1 (xss.map inD)
theorem ssD_opn {w : World} {v : Value} {xss : List (List Int)} (h : Rdt w (ssD xss) v) : ∃ a n cap, v = .slice a n cap ∧ Hid (xss.length = n) ∧ n ≤ cap ∧ n ≤ 9223372036854775807 ∧
    (0 < n → ∃ b off, a = some ⟨b, off, none⟩ ∧ b < w.heap.size ∧ ∀ i, i < n → ∃ u, w.cell? ⟨b, off + i, none⟩ = some u ∧ Rd w u (xss[i]?.getD [])) := by
  obtain ⟨a, n, cap, hv, HN, h1, h2, h3⟩ := h.opn
  have hn : xss.length = n := by have := HN.out; simpa using this
  refine ⟨a, n, cap, hv, hn, h1, h2, fun h0 => ?_⟩
  obtain ⟨b, off, ea, hb, hc⟩ := h3 h0
  refine ⟨b, off, ea, hb, fun i hi => ?_⟩
  obtain ⟨u, k1, k2⟩ := hc i (inD (xss[i]?.getD [])) (by simp [List.getElem?_eq_getElem (show i < xss.length by omega)])
  exact ⟨u, k1, k2.toRd⟩
def tot (xss : List (List Int)) : Nat := (xss.map List.length).sum
end Go.Proofs.YtmkkdenhjfjmgaaGreat
namespace Go.Proofs.YtmkkdenhjfjmgaaGreat
open Go.RowKit

/-- A number put into an ascending list, unless it is there. -/
def putI : List Int → Int → List Int
  | [], n => [n]
  | x :: xs, n => if x < n then x :: putI xs n else if x = n then x :: xs else n :: x :: xs
abbrev alA (zs : List Alm) (i : Nat) : Alm := zs[i]?.getD nilA
def alOk (zs : List Alm) (i : Nat) : Bool := inB (alA zs i).t 0 1000000 && (inB (alA zs i).l 1 999 && !(decide (0 < i) && decide ((alA zs i).t < (alA zs (i - 1)).t)))
def albOk (zs : List Alm) (gap : Int) : Bool := decide (zs.length ≤ 40) && (inB gap 0 1000000 && (List.range zs.length).all (alOk zs))
/-- Does alarm k begin a burst? -/
def newB (zs : List Alm) (gap : Int) (k : Nat) : Bool := decide (k = 0) || decide (gap < (alA zs k).t - (alA zs (k - 1)).t)
def addL (R : List (List Int)) (r : List Int) : List (List Int) := R.set (R.length - 1) r
def lastL (R : List (List Int)) : List Int := R[R.length - 1]?.getD []
def rwB (zs : List Alm) (gap : Int) (k : Nat) (R : List (List Int)) : List (List Int) := if newB zs gap k then R ++ [[]] else R
def rwS (zs : List Alm) (gap : Int) : Nat → List (List Int)
  | 0 => []
  | k + 1 => addL (rwB zs gap k (rwS zs gap k)) (putI (lastL (rwB zs gap k (rwS zs gap k))) (alA zs k).l)
def albR (zs : List Alm) (gap : Int) : List (List Int) := if albOk zs gap then rwS zs gap zs.length else []
def AlbP (zs : List Alm) (gap : Int) (w : World) (e : Ending) (w' : World) : Prop := ∃ v, e = .returned (.tuple #[v, .bool (albOk zs gap)]) ∧ Ofr w' w.heap.size (ssD (albR zs gap)) v ∧ Below w.heap.size w w'
end Go.Proofs.YtmkkdenhjfjmgaaGreat
namespace Go.Proofs.YtmkkdenhjfjmgaaGreat
open Go.RowKit

theorem Own.pushed' {w : World} {base : Nat} {v : Value} {xs : List Int} {g off n cap : Nat} (h : Own w base v xs) (hv : v = .slice (some ⟨g, off, none⟩) n cap) (hc : n + 1 ≤ cap) (u : Int) :
    Own (w.setCell ⟨g, off + n, none⟩ (.int .i64 u)) base (.slice (some ⟨g, off, none⟩) (n + 1) cap) (xs ++ [u]) ∧ w.grownBy (w.setCell ⟨g, off + n, none⟩ (.int .i64 u)) (some g) := by
  rcases h with ⟨rfl, rfl⟩ | ⟨g', off', cap', cur, hv', hb, ⟨T, hg⟩, h1, h2, h3, h4⟩
  · simp at hv
  · rw [hv'] at hv
    simp only [Value.slice.injEq, Option.some.injEq, Addr.mk.injEq, and_true] at hv
    obtain ⟨⟨rfl, rfl⟩, rfl, rfl⟩ := hv
    refine ⟨.inr ⟨g', off', cap', cur.setIfInBounds (off' + xs.length) (.int .i64 u), by simp, hb, ⟨T, heap_setCell_same w g' (off' + xs.length) cur _ _ hg⟩, by simpa using hc, h2, by simpa using h3, ?_⟩,
      ⟨rfl, rfl, rfl, by simp, fun k _ hk => heap_setCell_other w ⟨g', off' + xs.length, none⟩ k _ (fun e => hk (by simp [e]))⟩⟩
    have hlt : xs.length < (cur.toList.drop off').length := by simp; omega
    rw [Array.toList_setIfInBounds, List.length_append]
    show List.take (xs.length + 1) (List.drop off' (cur.toList.set (off' + xs.length) (.int .i64 u))) = (xs ++ [u]).map (Value.int .i64)
    rw [List.map_append]
    show _ = ints xs ++ [Value.int .i64 u]
    rw [← h4, List.drop_set, if_neg (by omega), Nat.add_sub_cancel_left, List.take_add_one, List.getElem?_set_self hlt, List.take_set, List.set_eq_of_length_le (by simp; omega)]
    rfl
/-- append of one integer to an own slice, nil too; the new element's block has just been laid. -/
theorem wpList_pushI {P : Program} {ops : Array Oper} {rest : List Oper} {o : Oper} {a : Act} {Q : Exit → Act → World → Prop} {wr : World} {y : Int} (hgd : o.guard = none) (s x : Operand) (T : TypeId)
    (ho : o.op = .call { callee := .builtin .append, args := #[s, x], argTypes := #[T, T] }) (ht : P.underlying T = some (.slice 3))
    (hinfo : (P.info? 3).map (fun i => (i.zero, i.size, i.bytes)) = some (some (.int .i64 0), 1, 8))
    (base : Nat) (v : Value) (xs : List Int) (hs : a.eval s = v) (hown : Own wr base v xs)
    (hx : a.eval x = .slice (some ⟨wr.heap.size, 0, none⟩) 1 1) (hn : xs.length ≤ 4000000) (hbase : base ≤ wr.heap.size)
    (h : ∀ v' w', Own w' base v' (xs ++ [y]) → wr.grownBy w' v.ownBlock → (∀ g, v'.ownBlock = some g → v.ownBlock = some g ∨ wr.heap.size ≤ g) → wpList P ops Q rest (a.put o.dst v') w') :
    wpList P ops Q (o :: rest) a (wr.alloc (.cells #[.int .i64 y] 3)) := by
  have h0 := hown
  rcases hown with ⟨rfl, rfl⟩ | ⟨g, f, cap, cur, rfl, hb, ⟨T', hg⟩, h1, h2, h3, h4⟩
  · obtain ⟨i0, hi, hz0, hz1, hz2⟩ := info_parts hinfo
    have hr : (wr.alloc (.cells #[.int .i64 y] 3)).ownsRow wr.heap.size 3 1 (.slice none 0 0) 0 (ints []) := ⟨by simp, .inl ⟨rfl, rfl⟩⟩
    refine wpList_append_own _ hgd s x T ho wr.heap.size 3 i0 (.int .i64 0) 1 8 ht hi hz0 hz1 hz2 rfl (by decide) (.slice none 0 0) 0 (ints []) hs hr ⟨wr.heap.size, 0, none⟩ 1 1 [.int .i64 y] hx rfl ?_ ?_ (by unfold maxLen; omega) (by omega) (by simp) ?_
    · intro j u hu
      rcases j with _ | j
      · simp at hu; subst hu
        simp [Addr.add, World.cell?_alloc_at]
      · simp at hu
    · intro u hu; simp at hu; subst hu; rfl
    · intro v' w' g1 g2 _
      have g3 : w'.ownsRow wr.heap.size 3 1 v' (0 + 1) (ints ([] ++ [y])) := by simpa [ints] using g1
      have o3 := own_of_row g3
      exact h v' w' (o3.mono hbase) ((World.grownBy_alloc _ _ _).trans' g2) (fun g hg => .inr (o3.lt g hg).1)
  · obtain ⟨i0, hi, hz0, hz1, hz2⟩ := info_parts hinfo
    have hba : Below wr.heap.size wr (wr.alloc (.cells #[.int .i64 y] 3)) := (Below.refl _ _).alloc (Nat.le_refl _) _
    have ho2 := h0.belowAll hba
    obtain ⟨hl, hc⟩ := ho2.cellAt rfl
    have hg0 : wr.grownBy (wr.alloc (.cells #[.int .i64 y] 3)) (some g) := ⟨hba.os, hba.tape, hba.output, hba.size, fun k hk _ => hba.block k hk⟩
    refine wpList_append_arg _ hgd s x T ho 3 i0 (.int .i64 0) 1 8 ht hi hz0 hz1 hz2 rfl (by decide) g f xs.length cap (ints xs) hs (by simp [hl]) ?_ ⟨wr.heap.size, 0, none⟩ 1 1 [.int .i64 y] hx rfl ?_ ?_ ?_ (by unfold maxLen; omega) (by omega) ?_ ?_
    · intro j u hu
      have hj : j < xs.length := by have := (List.getElem?_eq_some_iff.1 hu).1; simpa using this
      rw [hc j hj, ← hu]
      simp [hj]
    · intro j u hu
      rcases j with _ | j
      · simp at hu; subst hu
        simp [Addr.add, World.cell?_alloc_at]
      · simp at hu
    · intro u hu
      simp at hu; subst hu; rfl
    · intro hr j hj
      obtain rfl : j = 0 := by simpa using hj
      have hblt : g < wr.heap.size := (Array.getElem?_eq_some_iff.1 hg).1
      have hg' : (wr.alloc (.cells #[.int .i64 y] 3)).heap[g]? = some (.cells cur T' (0, 0)) := (hba.block g hblt).trans hg
      refine ⟨?_, frozen_of_row _ _ _ _ _ hg'⟩
      rw [cell_of_row _ _ _ _ _ _ hg']
      simp; omega
    · intro hr
      have hst := ho2.pushed' rfl (by omega) y
      rw [show f + xs.length * 1 = f + xs.length from by omega]
      exact h _ _ hst.1 (hg0.trans' hst.2) (fun g' hg' => .inl (by simpa [Value.ownBlock] using hg'))
    · intro hr v' w' h1 h2
      have h3 : w'.ownsRow (wr.alloc (.cells #[.int .i64 y] 3)).heap.size 3 1 v' (xs.length + 1) (ints (xs ++ [y])) := by simpa [ints] using h1
      have o3 := own_of_row h3
      exact h v' w' (o3.mono (by simp; omega)) (hg0.trans' ⟨h2.os, h2.tape, h2.output, h2.size, fun k hk _ => h2.block k hk (by simp)⟩) (fun g' hg' => .inr (by have := (o3.lt g' hg').1; simp at this; omega))

end Go.Proofs.YtmkkdenhjfjmgaaGreat
namespace Go.Proofs.YtmkkdenhjfjmgaaGreat
open Go.RowKit

theorem AlbP.no {zs : List Alm} {gap : Int} {w w' : World} {v : Value} (h : albOk zs gap = false) (ho : Ofr w' w.heap.size (ssD []) v) (hb : Below w.heap.size w w') : AlbP zs gap w (.returned (.tuple #[v, .bool false])) w' :=
  ⟨v, by rw [h], by unfold albR; rw [h]; exact ho, hb⟩
theorem AlbP.nil {zs : List Alm} {gap : Int} {w w' : World} (h : albOk zs gap = false) (hb : Below w.heap.size w w') : AlbP zs gap w (.returned (.tuple #[.slice none 0 0, .bool false])) w' :=
  AlbP.no h (Ofr.nil _ _ _) hb
theorem AlbP.yes {zs : List Alm} {gap : Int} {w w' : World} {v : Value} (h : albOk zs gap = true) (ho : Ofr w' w.heap.size (ssD (rwS zs gap zs.length)) v) (hb : Below w.heap.size w w') : AlbP zs gap w (.returned (.tuple #[v, .bool true])) w' :=
  ⟨v, by rw [h], by unfold albR; rw [h]; exact ho, hb⟩
/-! ### A list's law as one step of a drawn region -/
theorem upon_mono {P : Program} {o : Oper} {a : Act} {K K' : Act → World → Prop} {Q Q' : Exit → Act → World → Prop} (hK : ∀ a w, K a w → K' a w) (hQ : ∀ e a w, e ≠ .normal → Q e a w → Q' e a w) {r} (h : o.upon P a K Q r) : o.upon P a K' Q' r := by
  unfold Oper.upon at h ⊢
  split at h
  all_goals first
    | exact hK _ _ h
    | exact hQ _ _ _ (by simp) h
    | exact h
    | (refine Calls.mono h ?_
       rintro e w' hh
       cases e
       · exact hK _ _ hh
       · exact hQ _ _ _ (by simp) hh
       · obtain ⟨a2, w2, q⟩ := hh; exact ⟨a2, w2, hQ _ _ _ (by simp) q⟩)
    | (refine Rows.mono h ?_
       intro v w' hh
       exact hK _ _ hh)
theorem step_of_list {P : Program} {ops : Array Oper} {o : Oper} {a : Act} {w : World} {K : Act → World → Prop} {Q : Exit → Act → World → Prop} {E : Prop} (hg : o.guard = none)
    (h : wpList P ops (fun e a' w' => e = .normal ∧ K a' w') [o] a w) : if Region.wanted o (yielded ops a.tmps) = true then Oper.wp P o a w K Q else E := by
  have hw : Region.wanted o (yielded ops a.tmps) = true := by simp [Region.wanted, hg]
  rw [if_pos hw]
  unfold wpList at h
  rw [if_pos hw] at h
  rcases h with h | ⟨-, a2, w2, h, -⟩
  · unfold Oper.wp at h ⊢
    refine upon_mono (fun a w hh => ?_) (fun e a w hne hh => ?_) h
    · unfold wpList at hh; exact hh.2
    · exact absurd hh.1 hne
  · cases h
/-! ### Rows made sets, one after the other -/
end Go.Proofs.YtmkkdenhjfjmgaaGreat
namespace Go.Proofs.YtmkkdenhjfjmgaaGreat
open Go.RowKit Go.Sort Go.Lib

theorem sortI_own (v : Value) (xs : List Int) (base : Nat) (w : World) (h : Own w base v xs) (hl : xs.length ≤ 1099511627776) :
    Calls Tryz.prog 84 #[v] w fun e w' => e = .returned (.tuple #[]) ∧ Own w' base v (srt xs) ∧ w.grownBy w' v.ownBlock := by
  have h0 := h
  rcases h with ⟨rfl, rfl⟩ | ⟨g, off, cap, cur, rfl, hb, ⟨T, hg⟩, h1, h2, h3, h4⟩
  · refine (Tryz.slices_Sort_int_none none 0 w).mono ?_
    rintro e w' ⟨rfl, rfl⟩
    exact ⟨rfl, .inl ⟨rfl, by unfold srt; simp⟩, ⟨rfl, rfl, rfl, Nat.le_refl _, fun _ _ _ => rfl⟩⟩
  · refine (Tryz.slices_Sort_int g off cap xs w h0.holds (Array.getElem?_eq_some_iff.1 hg).1 (by omega)).mono ?_
    rintro e w' ⟨rfl, n, os, rfl⟩
    have := h0.putRow (q := n) (os := os) (ts := srt xs) (m := xs.length) (srt_len xs) (by rw [srt_len]; exact Nat.le_refl _)
    rw [List.take_of_length_le (by rw [srt_len]; exact Nat.le_refl _)] at this
    exact ⟨rfl, this, grownBy_putRow _⟩
theorem compactI_own (v : Value) (xs : List Int) (base : Nat) (w : World) (h : Own w base v xs) (hl : xs.length ≤ 1099511627776) :
    Calls Tryz.prog 85 #[v] w fun e w' => ∃ v', e = .returned v' ∧ v'.ownBlock = v.ownBlock ∧ Own w' base v' (cpt xs) ∧ w.grownBy w' v.ownBlock := by
  have h0 := h
  rcases h with ⟨rfl, rfl⟩ | ⟨g, off, cap, cur, rfl, hb, ⟨T, hg⟩, h1, h2, h3, h4⟩
  · refine (Tryz.slices_Compact_int_empty none 0 w).mono ?_
    rintro e w' ⟨rfl, rfl⟩
    exact ⟨_, rfl, rfl, .inl ⟨rfl, rfl⟩, ⟨rfl, rfl, rfl, Nat.le_refl _, fun _ _ _ => rfl⟩⟩
  · refine (Tryz.slices_Compact_int g off cap xs w h0.holds (by omega) h1).mono ?_
    rintro e w' ⟨rfl, n, rfl⟩
    have hle : (Lib.compact xs).length ≤ xs.length := cpt_len xs
    have hT : (Lib.compact xs ++ List.replicate (xs.length - (Lib.compact xs).length) 0).length = xs.length := by rw [List.length_append, List.length_replicate]; omega
    have := h0.putRow (q := n) (os := #[]) (ts := Lib.compact xs ++ List.replicate (xs.length - (Lib.compact xs).length) 0) (m := (Lib.compact xs).length) hT (by omega)
    rw [List.take_left, grow_empty] at this
    have g2 := grownBy_putRow (w := w) (g := g) (off := off) (n := n) (os := #[]) (Lib.compact xs ++ List.replicate (xs.length - (Lib.compact xs).length) 0).toArray
    rw [grow_empty] at g2
    exact ⟨_, rfl, rfl, this, g2⟩
end Go.Proofs.YtmkkdenhjfjmgaaGreat
namespace Go.Proofs.YtmkkdenhjfjmgaaGreat
open Go.RowKit Go.Sort
set_option maxRecDepth 100000
theorem Tryz.infoRows : (Tryz.prog.info? 29).map (fun i => (i.zero, i.size, i.bytes)) = some (some (.slice none 0 0), 1, 24) := by kernel_rfl

end Go.Proofs.YtmkkdenhjfjmgaaGreat
namespace Go.Proofs.YtmkkdenhjfjmgaaGreat
open Go.RowKit Go.Sort
set_option maxRecDepth 100000

/-- append of a part of a row to an own row, the part may be empty. -/
theorem wpList_catA {P : Program} {ops : Array Oper} {rest : List Oper} {o : Oper} {a : Act} {Q : Exit → Act → World → Prop} {w : World} (hgd : o.guard = none) (s x : Operand) (T : TypeId)
    (ho : o.op = .call { callee := .builtin .append, args := #[s, x], argTypes := #[T, T] }) (ht : P.underlying T = some (.slice 3))
    (hinfo : (P.info? 3).map (fun i => (i.zero, i.size, i.bytes)) = some (some (.int .i64 0), 1, 8))
    (base : Nat) (v : Value) (n : Nat) (xs : List Int) (hs : a.eval s = v) (hown : w.ownsRow base 3 1 v n (ints xs))
    (ao : Option Addr) (m c : Nat) (ys : List Int) (hx : a.eval x = .slice ao m c) (hm : ys.length = m) (hy : ao = none → m = 0 ∧ c = 0) (hc : 0 < m → ∃ b off, ao = some ⟨b, off, none⟩ ∧ ∀ j, j < m → w.cell? ⟨b, off + j, none⟩ = some (.int .i64 (ys[j]?.getD 0))) (hn : n + m ≤ 1000000) (hbase : base ≤ w.heap.size)
    (h : ∀ v' w', w'.ownsRow base 3 1 v' (n + m) (ints (xs ++ ys)) → w.grownBy w' v.ownBlock → wpList P ops Q rest (a.put o.dst v') w') :
    wpList P ops Q (o :: rest) a w := by
  obtain ⟨i0, hi, hz0, hz1, hz2⟩ := info_parts hinfo
  rcases ao with _ | ad
  · obtain ⟨rfl, rfl⟩ := hy rfl
    have : ys = [] := List.eq_nil_of_length_eq_zero hm
    subst this
    refine wpList_append_own_none hgd s x T ho base 3 i0 1 ht hi v n (ints xs) hs hown hx ?_
    exact h v w (by simpa using hown) ⟨rfl, rfl, rfl, Nat.le_refl _, fun _ _ _ => rfl⟩
  · refine wpList_append_own _ hgd s x T ho base 3 i0 (.int .i64 0) 1 8 ht hi hz0 hz1 hz2 rfl (by decide) v n (ints xs) hs hown ad m c (ints ys) hx (by simpa using hm) ?_ (ints_oneCell _ _) (by unfold maxLen; omega) (by omega) hbase ?_
    · intro j u hu
      have hj : j < ys.length := by have := (List.getElem?_eq_some_iff.1 hu).1; simpa using this
      obtain ⟨b, off, e1, e2⟩ := hc (by omega)
      simp only [Option.some.injEq] at e1
      subst e1
      have e : (⟨b, off, none⟩ : Addr).add j = ⟨b, off + j, none⟩ := by unfold Addr.add; split <;> simp_all
      rw [e, e2 j (by omega), ← hu]
      simp [hj]
    · intro v' w' g1 g2 _
      exact h v' w' (by simpa [ints] using g1) g2
theorem one_cell {W : World} {c : Nat} {n : Int} (h : W.cell? ⟨c, 0, none⟩ = some (.int .i64 n)) : ∀ j, j < 1 → W.cell? ⟨c, 0 + j, none⟩ = some (.int .i64 (([n] : List Int)[j]?.getD 0)) := fun j hj => by
  obtain rfl : j = 0 := by omega
  exact h
section
variable {w : World} {X Y : Obj} {T : TypeId} {n : Int}
theorem bel1 : Below w.heap.size w (w.drew.alloc X) := (Below.refl w.heap.size w).drew.alloc (Nat.le_refl _) _
theorem bel2 : Below w.heap.size w ((w.drew.alloc X).alloc Y) := bel1.alloc (by simp) _
theorem size_alloc {B : Nat} (h : B ≤ w.heap.size) : B ≤ (w.alloc X).heap.size := Nat.le_trans h (by simp)
theorem lt2 : w.heap.size + 1 < ((w.drew.alloc X).alloc Y).heap.size := by simp
theorem lt3 : w.heap.size < ((w.drew.alloc X).alloc Y).heap.size := by simp; omega
theorem ne2 : some (w.heap.size + 1) ≠ (Value.slice (some ⟨w.heap.size, 0, none⟩) 0 0).ownBlock := by simp [Value.ownBlock]
theorem ne3 : some w.heap.size ≠ (Value.slice (some ⟨w.heap.size + 1, 0, none⟩) 0 0).ownBlock := by simp [Value.ownBlock]
end
end Go.Proofs.YtmkkdenhjfjmgaaGreat
