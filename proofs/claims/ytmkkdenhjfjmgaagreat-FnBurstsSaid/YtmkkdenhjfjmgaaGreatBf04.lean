/- Joined: XNetS XFlu XMid XNumP XLnw XLal XExa XIss XAlbP XPsh XAlbQ XSrtW. -/
import Derived.Test.YtmkkdenhjfjmgaaGreatBf03
import Derived.Test.YtmkkdenhjfjmgaaGreatBf02
import Derived.OwnWalk
import Derived.Deep.MidRow
import Derived.WalkKit
import Derived.Lib.Hide
import Derived.Test.YtmkkdenhjfjmgaaGreatBf01
import Derived.Lib.ItoaNum
import Derived.Laws.IdiomStrings
import Derived.ArgAppend
import Derived.Test.YtmkkdenhjfjmgaaGreatShelf
namespace Go.Proofs.YtmkkdenhjfjmgaaGreat
open Go.RowKit Go.Sort
set_option maxRecDepth 100000

set_option maxHeartbeats 6400000 in
theorem l2Good_any (v : Value) (n : Net) (w : World) (h : NetR w v n) :
    Calls Tryz.prog 139 #[v] w fun e w' => e = .returned (.bool (netOk n)) ∧ Below w.heap.size w w' := by
  obtain ⟨u1, u2, rfl, r1, r2, hsm⟩ := h
  obtain ⟨a1, m1, c1, rfl, HN1, hc1, hm1, ha1⟩ := flt_opn (m := 1) (enc := strE) (fun _ => rfl) (by omega) nilS r1
  obtain ⟨a2, m2, c2, rfl, HN2, hc2, hm2, ha2⟩ := flt_opn (m := 4) (enc := fibE) (fun _ => rfl) (by omega) nilB r2
  have HNM := Lib.hid (fun i hi h => @netOk_nm n i hi h)
  have HFB := Lib.hid (fun i hi h => @netOk_fb n i hi h)
  have HALL := Lib.hid (@netOk_all n)
  have HSZ := Lib.hid (@netOk_sz n)
  rw [HN1.out, HN2.out] at HALL HSZ
  rw [HN1.out] at HNM
  rw [HN2.out] at HFB
  generalize netOk n = q at *
  obtain ⟨bx, bc, blt, -⟩ := box_facts w #[.slice a1 m1 c1, .slice a2 m2 c2] 35
  have q0 := bc 0 _ rfl
  have q1 := bc 1 _ rfl
  have HA1 := Lib.hid ha1
  have HA2 := Lib.hid ha2
  have HR1 := Lib.hid (r1.behind bx)
  have HBX := Lib.hid bx
  have HSM := Lib.hid hsm
  clear bc ha1 ha2 r1 r2 bx hsm
  go_enter Tryz.func139, Tryz.ntmps139
  by_cases hsz : 2 ≤ m1 ∧ m1 ≤ 8 ∧ m2 ≤ 14
  case neg =>
    have HF := Lib.hid (HSZ.out hsz)
    by_cases h1 : 2 ≤ m1 ∧ m1 ≤ 8
    · have hin : inB (m1 : Int) 2 8 = true := by unfold inB; simp; omega
      have hd : decide (14 < (m2 : Int)) = true := decide_eq_true (by omega)
      have hd2 : decide (14 < m2) = true := decide_eq_true (by omega)
      clear hsz h1
      go_wp2_with (go_at_call 86; refine (l1In_any _ _ _ _).mono ?_; rintro e w' ⟨rfl, rfl⟩; rw [hin])
      go_ret
      exact ⟨by rw [HF.out]; rfl, HBX.out⟩
    · have hin : inB (m1 : Int) 2 8 = false := by
        by_cases h2 : 2 ≤ m1
        · unfold inB; simp; omega
        · unfold inB; simp; omega
      clear hsz h1
      go_wp2_with (go_at_call 86; refine (l1In_any _ _ _ _).mono ?_; rintro e w' ⟨rfl, rfl⟩; rw [hin])
      go_ret
      exact ⟨by rw [HF.out]; rfl, HBX.out⟩
  have hin : inB (m1 : Int) 2 8 = true := by unfold inB; simp; omega
  have hd : decide (14 < (m2 : Int)) = false := decide_eq_false (by omega)
  have hd2 : decide (14 < m2) = false := decide_eq_false (by omega)
  obtain ⟨z1, z2, z3⟩ := hsz
  rw [decide_eq_true (show 2 ≤ m1 ∧ m1 ≤ 8 ∧ m2 ≤ 14 from ⟨z1, z2, z3⟩)] at HALL
  clear HSZ
  go_wp2_with (go_at_call 86; refine (l1In_any _ _ _ _).mono ?_; rintro e w' ⟨rfl, rfl⟩; rw [hin])
  generalize w.alloc (.cells #[.slice a1 m1 c1, .slice a2 m2 c2] 35) = w1 at *
  clear hin hd hd2
  go_loopw [3] (fun i wr => ∃ k : Nat, k ≤ m1 ∧ i = .int .i64 k ∧ Hid (∀ i, i < k → nmOk n i = true) ∧ Hid (Below w1.heap.size w1 wr)) (fun i _ => m1 - (intOf i).toNat)
  case atStart => exact ⟨0, Nat.zero_le _, rfl, fun i hi => by omega, Below.refl _ _⟩
  case round =>
    obtain ⟨k, hk, rfl, HK, HB⟩ := hrel
    have p0 := (HB.out.cell blt).trans q0
    have p1 := (HB.out.cell blt).trans q1
    by_cases hlt : k < m1
    · have hltI : (k : Int) < (m1 : Int) := by omega
      have hkx : k < n.ns.length := by rw [HN1.out]; exact hlt
      obtain ⟨b, off, rfl, hbs, hcs⟩ := HA1.out (by omega)
      have hc0 := hcs k hlt 0 _ rfl
      rw [Nat.mul_one, Nat.add_zero] at hc0
      have hcw := (HB.out.cell (p := ⟨b, off + k, none⟩) (Nat.lt_of_lt_of_le hbs HBX.out.size)).trans ((HBX.out.cell hbs).trans hc0)
      have HNA := Lib.hid (fun w => l2Name_any (nmA n k) w (Nat.le_trans (HSM.out k) (by decide)))
      have HFI := Lib.hid (fun d os => l2Find_any _ n.ns (nmA n k) _ ((HR1.out.behind HB.out).rg d os))
      have HV := Lib.hid (show nmOk n k = (nameOk (nmA n k) && decide (plc n.ns (nmA n k) = (k : Int))) from rfl)
      have HST := Lib.hid (fun h => upto_succ HK.out (k := k) h)
      have HNO := Lib.hid (HNM.out k hlt)
      clear hcs hc0 hkx
      unfold nmA at *
      generalize hx : n.ns[k]?.getD nilS = x at *
      clear hx
      cases hN : nameOk x
      · have HF := Lib.hid (HNO.out (by rw [HV.out, hN]; rfl))
        clear HNO HST HV HFI
        rw [hN] at HNA
        clear hN
        go_wp2
        have j0 := rg p0
        have j1 := rg p1
        have j2 := rg hcw
        clear p0 p1 hcw
        refine wp_region_quiet_below (by kernel_rfl) (by kernel_rfl) ?_
        repeat (go_big_quiet_step (first | (go_at_call 183; exact rg_same (HNA.out _))))
        refine wpQuiet_nil ?_
        rintro _ ⟨⟨dq, osq⟩, rfl⟩
        go_wp2
        go_ret
        exact ⟨by rw [HF.out]; rfl, HBX.out.trans ((HB.out.mono HBX.out.size).trans ((below_regrown _ dq osq).mono (Nat.le_trans HBX.out.size HB.out.size)))⟩
      rw [hN] at HNA HV
      have HV2 := Lib.hid (show nmOk n k = decide (plc n.ns x = (k : Int)) by rw [HV.out]; simp)
      clear hN HV
      generalize plc n.ns x = pl at *
      have hne : (pl != (k : Int)) = !decide (pl = (k : Int)) := rfl
      cases hP : decide (pl = (k : Int))
      · have HF := Lib.hid (HNO.out (by rw [HV2.out, hP]))
        rw [hP] at hne
        have hne2 : (pl != (k : Int)) = true := hne
        clear HNO HST HV2 hP hne
        go_wp2
        have j0 := rg p0
        have j1 := rg p1
        have j2 := rg hcw
        clear p0 p1 hcw
        refine wp_region_quiet_below (by kernel_rfl) (by kernel_rfl) ?_
        repeat (go_big_quiet_step (first | (go_at_call 183; exact rg_same (HNA.out _)) | (go_at_call 184; exact rg_same (HFI.out _ _))))
        refine wpQuiet_nil ?_
        rintro _ ⟨⟨dq, osq⟩, rfl⟩
        go_wp2
        go_ret
        exact ⟨by rw [HF.out]; rfl, HBX.out.trans ((HB.out.mono HBX.out.size).trans ((below_regrown _ dq osq).mono (Nat.le_trans HBX.out.size HB.out.size)))⟩
      · have HS := Lib.hid (HST.out (by rw [HV2.out, hP]))
        rw [hP] at hne
        have hne2 : (pl != (k : Int)) = false := hne
        clear HNO HST HV2 hP hne
        go_wp2
        have j0 := rg p0
        have j1 := rg p1
        have j2 := rg hcw
        clear p0 p1 hcw
        refine wp_region_quiet_below (by kernel_rfl) (by kernel_rfl) ?_
        repeat (go_big_quiet_step (first | (go_at_call 183; exact rg_same (HNA.out _)) | (go_at_call 184; exact rg_same (HFI.out _ _))))
        refine wpQuiet_nil ?_
        rintro _ ⟨⟨dq, osq⟩, rfl⟩
        go_wp2
        go_roundw
        case rel => exact ⟨k + 1, hlt, by go_num, HS.out, HB.out.trans ((below_regrown _ dq osq).mono HB.out.size)⟩
        case measure => simp [intOf]; omega
    · obtain rfl : m1 = k := by omega
      have HAL1 := Lib.hid (HALL.out HK.out)
      clear HALL HK HNM HR1
      go_wp2
      go_loopw [4] (fun i wr => ∃ k : Nat, k ≤ m2 ∧ i = .int .i64 k ∧ Hid (∀ i, i < k → fbOk n i = true) ∧ Hid (Below w1.heap.size w1 wr)) (fun i _ => m2 - (intOf i).toNat)
      case atStart => exact ⟨0, Nat.zero_le _, rfl, fun i hi => by omega, HB.out⟩
      case round =>
        clear HB p0 p1
        obtain ⟨k, hk, rfl, HK, HB⟩ := hrel
        have p0 := (HB.out.cell blt).trans q0
        have p1 := (HB.out.cell blt).trans q1
        by_cases hlt : k < m2
        · have hltI : (k : Int) < (m2 : Int) := by omega
          obtain ⟨b, off, rfl, hbs, hcs⟩ := HA2.out (by omega)
          have hcw := fun (i : Nat) (hi : i < m2) (r : Nat) (u : Value) (hu : (fibE (n.fs[i]?.getD nilB))[r]? = some u) => (HB.out.cell (p := ⟨b, off + i * 4 + r, none⟩) (Nat.lt_of_lt_of_le hbs HBX.out.size)).trans ((HBX.out.cell hbs).trans (hcs i hi r u hu))
          have HC := Lib.hid hcw
          have HST := Lib.hid (fun h => upto_succ HK.out (k := k) h)
          have HNO := Lib.hid (HFB.out k hlt)
          have HV := Lib.hid (show fbOk n k = (fibOk (fbA n k) n.ns.length && !(decide (0 < k) && fibGt (fbA n (k - 1)) (fbA n k))) from rfl)
          rw [HN1.out] at HV
          have c0 := hcw k hlt 0 _ rfl
          have c1 := hcw k hlt 1 _ rfl
          have c2 := hcw k hlt 2 _ rfl
          have c3 := hcw k hlt 3 _ rfl
          simp only [Nat.add_zero] at c0
          have j0 := rg c0
          have j1 := rg c1
          have j2 := rg c2
          have j3 := rg c3
          have j4 := rg p0
          have j5 := rg p1
          clear hcs hcw c0 c1 c2 c3
          unfold fbA at *
          have HFI := Lib.hid (fun w => l2Fiber_any (n.fs[k]?.getD nilB) m1 w (by omega))
          have HSMK := Lib.hid (fun h => @fibOk_small (n.fs[k]?.getD nilB) m1 h (by omega))
          generalize n.fs[k]?.getD nilB = f at *
          unfold fibV at HFI
          generalize hok : fibOk f m1 = ok at *
          cases ok
          · have HF := Lib.hid (HNO.out (by rw [HV.out]; rfl))
            clear hok HNO HST HV
            go_wp2
            clear p0 p1
            refine wp_region_quiet_below (by kernel_rfl) (by kernel_rfl) ?_
            repeat (go_big_quiet_step (first | (go_at_call 185; exact Calls.regrown_of (HFI.out _))))
            refine wpQuiet_nil ?_
            rintro _ ⟨⟨dq, osq⟩, rfl⟩
            go_wp2
            go_ret
            exact ⟨by rw [HF.out]; rfl, HBX.out.trans ((HB.out.mono HBX.out.size).trans ((below_regrown _ dq osq).mono (Nat.le_trans HBX.out.size HB.out.size)))⟩
          by_cases hk0 : k = 0
          · have hk0b : decide (0 < k) = false := decide_eq_false (by omega)
            have hk0c : decide (0 < (k : Int)) = false := decide_eq_false (by omega)
            have hv := HV.out
            rw [decide_eq_false (show ¬ 0 < k by omega)] at hv
            have HS := Lib.hid (HST.out (by rw [hv]; rfl))
            clear hok hk0 hv HV
            go_wp2
            clear p0 p1
            refine wp_region_quiet_below (by kernel_rfl) (by kernel_rfl) ?_
            repeat (go_big_quiet_step (first | (go_at_call 185; exact Calls.regrown_of (HFI.out _))))
            refine wpQuiet_nil ?_
            rintro _ ⟨⟨dq, osq⟩, rfl⟩
            go_wp2
            go_roundw
            case rel => exact ⟨k + 1, hlt, by go_num, HS.out, HB.out.trans ((below_regrown _ dq osq).mono HB.out.size)⟩
            case measure => simp [intOf]; omega
          · obtain ⟨k', hk'⟩ : ∃ k', k = k' + 1 := ⟨k - 1, by omega⟩
            have hgo := HK.out k' (by omega)
            have o0 := HC.out k' (by omega) 0 _ rfl
            have o1 := HC.out k' (by omega) 1 _ rfl
            have o2 := HC.out k' (by omega) 2 _ rfl
            have o3 := HC.out k' (by omega) 3 _ rfl
            simp only [Nat.add_zero] at o0
            have t0 := rg o0
            have t1 := rg o1
            have t2 := rg o2
            have t3 := rg o3
            have hsg : smallF (n.fs[k']?.getD nilB) := by
              unfold fbOk fbA at hgo
              rw [HN1.out] at hgo
              simp only [Bool.and_eq_true] at hgo
              exact fibOk_small hgo.1 (by omega)
            have HCF := Lib.hid (fun w => l2Before_any (n.fs[k']?.getD nilB) f w hsg (HSMK.out rfl))
            have HGT := Lib.hid (befF_gt (n.fs[k']?.getD nilB) f)
            have hv := HV.out
            rw [show k - 1 = k' by omega, decide_eq_true (show 0 < k by omega)] at hv
            have HV2 := Lib.hid hv
            clear hok hv HV o0 o1 o2 o3 hgo hsg HSMK
            generalize n.fs[k']?.getD nilB = g at *
            have hkp : (0 : Int) < (k : Int) := by omega
            have hkd : decide (0 < (k : Int)) = true := decide_eq_true hkp
            have hke : decide (0 < k) = true := decide_eq_true (by omega)
            have f1w : IntKind.i64.wrap ((k : Int) - 1) = (k' : Int) := by rw [IntWalk.i64_in _ (by omega)]; omega
            have f2w : (k' : Int) < (m2 : Int) := by omega
            clear hk' hk0
            unfold fibV at HCF
            generalize befF g f = cc at *
            cases hgt : fibGt g f
            · have HS := Lib.hid (HST.out (by rw [HV2.out, hgt]; simp))
              have hdc : decide (0 < cc) = false := by rw [HGT.out, hgt]
              clear hgt HNO HST HV2 HGT
              go_wp2
              clear p0 p1
              refine wp_region_quiet_below (by kernel_rfl) (by kernel_rfl) ?_
              repeat (go_big_quiet_step (first | (go_at_call 185; exact Calls.regrown_of (HFI.out _)) | (go_at_call 186; exact Calls.regrown_of (HCF.out _))))
              refine wpQuiet_nil ?_
              rintro _ ⟨⟨dq, osq⟩, rfl⟩
              go_wp2
              go_roundw
              case rel => exact ⟨k + 1, hlt, by go_num, HS.out, HB.out.trans ((below_regrown _ dq osq).mono HB.out.size)⟩
              case measure => simp [intOf]; omega
            · have HF := Lib.hid (HNO.out (by rw [HV2.out, hgt]; simp))
              have hdc : decide (0 < cc) = true := by rw [HGT.out, hgt]
              clear hgt HNO HST HV2 HGT
              go_wp2
              clear p0 p1
              refine wp_region_quiet_below (by kernel_rfl) (by kernel_rfl) ?_
              repeat (go_big_quiet_step (first | (go_at_call 185; exact Calls.regrown_of (HFI.out _)) | (go_at_call 186; exact Calls.regrown_of (HCF.out _))))
              refine wpQuiet_nil ?_
              rintro _ ⟨⟨dq, osq⟩, rfl⟩
              go_wp2
              go_ret
              exact ⟨by rw [HF.out]; rfl, HBX.out.trans ((HB.out.mono HBX.out.size).trans ((below_regrown _ dq osq).mono (Nat.le_trans HBX.out.size HB.out.size)))⟩
        · obtain rfl : m2 = k := by omega
          have HE := Lib.hid (HAL1.out HK.out)
          go_wp2
          go_ret
          exact ⟨by rw [HE.out]; rfl, HBX.out.trans (HB.out.mono HBX.out.size)⟩
end Go.Proofs.YtmkkdenhjfjmgaaGreat
namespace Go.Proofs.YtmkkdenhjfjmgaaGreat
open Go.RowKit

theorem kept_o' {X Y : World} {b : Nat} {x : Obj} (h : X.heap[b]? = some x) (hb : Below X.heap.size X Y) : Y.heap[b]? = some x := by
  rw [hb.block b (Array.getElem?_eq_some_iff.1 h).1]; exact h
section
variable {α : Type}
end
end Go.Proofs.YtmkkdenhjfjmgaaGreat
namespace Go.Proofs.YtmkkdenhjfjmgaaGreat
open Go.RowKit

/-- What a store into block b leaves. -/
structure Stx (w w' : World) (b : Nat) (new : Array Value) (T : TypeId) : Prop where
  blk : w'.heap[b]? = some (.cells new T (0, 0))
  other : ∀ k, k ≠ b → w'.heap[k]? = w.heap[k]?
  size : w'.heap.size = w.heap.size
  below : ∀ (B : Nat) (u : World), B ≤ b → Below B u w → Below B u w'
theorem Stx.ofr {w w' : World} {b base : Nat} {new : Array Value} {T : TypeId} {d : Dt} {v : Value} (h : Stx w w' b new T) (ho : Ofr w base d v) (hb : b < base) : Ofr w' base d v := by
  obtain ⟨fp, h1, h2, h3⟩ := ho
  exact ⟨fp, h1.kept fun k hk => h.other k (by have := h3 k hk; omega), h2, h3⟩
theorem Stx.kept {w w' : World} {b : Nat} {new : Array Value} {T : TypeId} (h : Stx w w' b new T) (p : Addr) (hp : p.block ≠ b) : w'.cell? p = w.cell? p := by
  unfold World.cell?
  rw [h.other _ hp]
theorem Stx.odt {w w' : World} {b : Nat} {new : Array Value} {T : TypeId} {d : Dt} {v : Value} {fp : List Nat} (h : Stx w w' b new T) (ho : Odt w d v fp) (hb : b ∉ fp) : Odt w' d v fp :=
  ho.kept fun k hk => h.other k (fun e => hb (by rw [← e]; exact hk))
end Go.Proofs.YtmkkdenhjfjmgaaGreat
namespace Go.Proofs.YtmkkdenhjfjmgaaGreat
open Go.RowKit

abbrev mk (l : List UInt8) : ByteArray := ⟨l.toArray⟩
end Go.Proofs.YtmkkdenhjfjmgaaGreat
namespace Go.Proofs.YtmkkdenhjfjmgaaGreat
open Go.RowKit Go.Sort
set_option maxRecDepth 100000

def NetSm (n : Net) : Prop := ∀ i : Nat, (nmA n i).size ≤ 1048576
/-- The value of an argument reads as the network. -/
def NetW (w : World) (v : Value) (n : Net) : Prop := ∃ u1 u2, v = .agg #[u1, u2] ∧ Rwt w (flt 1 strE n.ns) u1 ∧ Rwt w (flt 4 fibE n.fs) u2 ∧ ∀ i : Nat, (nmA n i).size ≤ maxLen
theorem NetW.behind {w w' : World} {v : Value} {n : Net} (h : NetW w v n) (hb : Below w.heap.size w w') : NetW w' v n := by
  obtain ⟨u1, u2, e, h1, h2, h3⟩ := h; exact ⟨u1, u2, e, h1.behind hb, h2.behind hb, h3⟩
/-- The value is the network, in these blocks of the call's own. -/
def NetO (w : World) (n : Net) (v : Value) (fp : List Nat) : Prop := ∃ u1 u2 f1 f2, v = .agg #[u1, u2] ∧ Odt w (flt 1 strE n.ns) u1 f1 ∧ Odt w (flt 4 fibE n.fs) u2 f2 ∧ fp = f1 ++ f2
theorem NetO.rd {w : World} {n : Net} {v : Value} {fp : List Nat} (h : NetO w n v fp) (hs : NetSm n) : NetR w v n := by
  obtain ⟨u1, u2, f1, f2, e, h1, h2, _⟩ := h; exact ⟨u1, u2, e, h1.rd, h2.rd, hs⟩
theorem NetO.behind {w w' : World} {n : Net} {v : Value} {fp : List Nat} (h : NetO w n v fp) (hb : Below w.heap.size w w') : NetO w' n v fp := by
  obtain ⟨u1, u2, f1, f2, e, h1, h2, e2⟩ := h; exact ⟨u1, u2, f1, f2, e, h1.behind hb, h2.behind hb, e2⟩
theorem NetO.apart {w w' : World} {n : Net} {v : Value} {fp fq : List Nat} (h : NetO w n v fp) (hw : Wr w w' fq) (hd : ∀ k ∈ fp, k ∉ fq) : NetO w' n v fp := by
  obtain ⟨u1, u2, f1, f2, e, h1, h2, rfl⟩ := h
  exact ⟨u1, u2, f1, f2, e, h1.apart hw (fun k hk => hd k (List.mem_append_left _ hk)), h2.apart hw (fun k hk => hd k (List.mem_append_right _ hk)), rfl⟩
theorem NetO.lt {w : World} {n : Net} {v : Value} {fp : List Nat} (h : NetO w n v fp) : ∀ k ∈ fp, k < w.heap.size := by
  obtain ⟨u1, u2, f1, f2, e, h1, h2, rfl⟩ := h
  intro k hk
  rcases List.mem_append.1 hk with hk | hk
  · exact h1.lt k hk
  · exact h2.lt k hk
theorem Rwt.slice {w : World} {size : Nat} {ds : List Dt} {v : Value} (h : Rwt w (.rows size ds) v) : ∃ a n cap, v = .slice a n cap := by
  obtain ⟨a, n, cap, e, _⟩ := h.opn; exact ⟨a, n, cap, e⟩
theorem Rdt.slice {w : World} {size : Nat} {ds : List Dt} {v : Value} (h : Rdt w (.rows size ds) v) : ∃ a n cap, v = .slice a n cap := by
  obtain ⟨a, n, cap, e, _⟩ := h.opn; exact ⟨a, n, cap, e⟩
theorem NetO.form {w : World} {n : Net} {v : Value} {fp : List Nat} (h : NetO w n v fp) : ∃ a1 n1 c1 a2 n2 c2, v = .agg #[.slice a1 n1 c1, .slice a2 n2 c2] := by
  obtain ⟨u1, u2, f1, f2, rfl, h1, h2, _⟩ := h
  obtain ⟨a1, n1, c1, rfl⟩ := Rdt.slice (show Rdt w (.rows _ _) u1 from h1.rd)
  obtain ⟨a2, n2, c2, rfl⟩ := Rdt.slice (show Rdt w (.rows _ _) u2 from h2.rd)
  exact ⟨_, _, _, _, _, _, rfl⟩
end Go.Proofs.YtmkkdenhjfjmgaaGreat
namespace Go.Proofs.YtmkkdenhjfjmgaaGreat
open Go.RowKit Go.Sort
set_option maxRecDepth 100000

structure Alm where
  t : Int
  l : Int
def nilA : Alm := ⟨0, 0⟩
def almE (z : Alm) : List Value := [.int .i64 z.t, .int .i64 z.l]
end Go.Proofs.YtmkkdenhjfjmgaaGreat
namespace Go.Proofs.YtmkkdenhjfjmgaaGreat
open Go.RowKit Go.Sort
set_option maxRecDepth 100000

theorem Own.odt {w : World} {base : Nat} {v : Value} {xs : List Int} (h : Own w base v xs) : Odt w (inD xs) v v.ownBlock.toList := by
  obtain ⟨fp, h1, h2, h3⟩ := h.tree
  have : fp = v.ownBlock.toList := by
    unfold inD at h1
    generalize hD : (xs.map fun x => Dt.leaf (.int .i64 x)) = ds at h1
    cases h1 with
    | nil size => rfl
    | @mk size n g off cap ds us fs cur T hl hu hf hn hc hg hcs ht hd =>
      have : fs.flatten = [] := by
        rw [List.flatten_eq_nil_iff]
        intro f hf'
        obtain ⟨j, hj, rfl⟩ := List.mem_iff_getElem.1 hf'
        have hjd : j < ds.length := by omega
        have h1 := hd j ds[j] us[j] fs[j] (List.getElem?_eq_getElem hjd) (List.getElem?_eq_getElem (by omega)) (List.getElem?_eq_getElem hj)
        have hx : j < xs.length := by rw [← hD] at hjd; simpa using hjd
        have e : ds[j] = .leaf (.int .i64 xs[j]) := by simp [← hD]
        rw [e] at h1
        exact h1.leaf_inv.2
      rw [this]; rfl
  rw [← this]; exact h1
theorem inD_fp {w : World} {v : Value} {xs : List Int} {f : List Nat} (h : Odt w (inD xs) v f) : f = v.ownBlock.toList := by
  unfold inD at h
  generalize hD : (xs.map fun x => Dt.leaf (.int .i64 x)) = ds at h
  cases h with
  | nil size => rfl
  | @mk size n g off cap ds us fs cur T hl hu hf hn hc hg hcs ht hd =>
    have : fs.flatten = [] := by
      rw [List.flatten_eq_nil_iff]
      intro f hf'
      obtain ⟨j, hj, rfl⟩ := List.mem_iff_getElem.1 hf'
      have hjd : j < ds.length := by omega
      have h1 := hd j ds[j] us[j] fs[j] (List.getElem?_eq_getElem hjd) (List.getElem?_eq_getElem (by omega)) (List.getElem?_eq_getElem hj)
      have hx : j < xs.length := by rw [← hD] at hjd; simpa using hjd
      have e : ds[j] = .leaf (.int .i64 xs[j]) := by simp [← hD]
      rw [e] at h1
      exact h1.leaf_inv.2
    rw [this]; rfl
end Go.Proofs.YtmkkdenhjfjmgaaGreat
namespace Go.Proofs.YtmkkdenhjfjmgaaGreat
open Go.RowKit Go.Sort
set_option maxRecDepth 100000

def ssD (xss : List (List Int)) : Dt := .rows 1 (xss.map inD)
theorem ssD_opn {w : World} {v : Value} {xss : List (List Int)} (h : Rdt w (ssD xss) v) : ∃ a n cap, v = .slice a n cap ∧ Hid (xss.length = n) ∧ n ≤ cap ∧ n ≤ 9223372036854775807 ∧
    (0 < n → ∃ b off, a = some ⟨b, off, none⟩ ∧ b < w.heap.size ∧ ∀ i, i < n → ∃ u, w.cell? ⟨b, off + i, none⟩ = some u ∧ Rd w u (xss[i]?.getD [])) := by
  obtain ⟨a, n, cap, hv, HN, h1, h2, h3⟩ := h.opn
  have hn : xss.length = n := by have := HN.out; simpa using this
  refine ⟨a, n, cap, hv, hn, h1, h2, fun h0 => ?_⟩
  obtain ⟨b, off, ea, hb, hc⟩ := h3 h0
  refine ⟨b, off, ea, hb, fun i hi => ?_⟩
  obtain ⟨u, k1, k2⟩ := hc i (inD (xss[i]?.getD [])) (by simp [List.getElem?_eq_getElem (show i < xss.length by omega)])
  exact ⟨u, k1, k2.toRd⟩
def tot (xss : List (List Int)) : Nat := (xss.map List.length).sum
theorem tot_step {xss : List (List Int)} {k : Nat} (h : k < xss.length) : tot (xss.take (k + 1)) = tot (xss.take k) + (xss[k]?.getD []).length := by
  rw [tot, tot, List.take_add_one, List.map_append, List.sum_append, List.getElem?_eq_getElem h]; simp
theorem tot_le (xss : List (List Int)) (k : Nat) : tot (xss.take k) ≤ tot xss := by
  rw [tot, tot]
  conv => rhs; rw [← List.take_append_drop k xss, List.map_append, List.sum_append]
  omega
theorem tot_mem {xss : List (List Int)} {k : Nat} (h : k < xss.length) : (xss[k]?.getD []).length ≤ tot xss := by
  have h1 := tot_step h
  have h2 := tot_le xss (k + 1)
  omega
end Go.Proofs.YtmkkdenhjfjmgaaGreat
namespace Go.Proofs.YtmkkdenhjfjmgaaGreat
open Go.RowKit

/-- A number put into an ascending list, unless it is there. -/
def putI : List Int → Int → List Int
  | [], n => [n]
  | x :: xs, n => if x < n then x :: putI xs n else if x = n then x :: xs else n :: x :: xs
theorem putI_mem : ∀ {xs : List Int} {n y : Int}, y ∈ putI xs n ↔ y = n ∨ y ∈ xs
  | [], n, y => by simp [putI]
  | x :: xs, n, y => by
    unfold putI
    split
    · rw [List.mem_cons, putI_mem, List.mem_cons]
      constructor
      · rintro (h | h | h) <;> simp [h]
      · rintro (h | h | h) <;> simp [h]
    · split
      · rename_i h; subst h; simp
      · simp
theorem putI_asc : ∀ {xs : List Int} {n : Int}, xs.Pairwise (· < ·) → (putI xs n).Pairwise (· < ·)
  | [], n, _ => by simp [putI]
  | x :: xs, n, h => by
    obtain ⟨h1, h2⟩ := List.pairwise_cons.1 h
    unfold putI
    split
    · rename_i hx
      refine List.pairwise_cons.2 ⟨fun y hy => ?_, putI_asc h2⟩
      rcases putI_mem.1 hy with e | e
      · omega
      · exact h1 y e
    · split
      · exact h
      · rename_i hx hx2
        refine List.pairwise_cons.2 ⟨fun y hy => ?_, h⟩
        rcases List.mem_cons.1 hy with e | e
        · omega
        · have := h1 y e; omega
theorem putI_at : ∀ {xs : List Int} {n : Int} (k : Nat), k ≤ xs.length → (∀ i, i < k → xs[i]?.getD 0 < n) → (k < xs.length → n ≤ xs[k]?.getD 0) → putI xs n = if k < xs.length ∧ xs[k]?.getD 0 = n then xs else xs.take k ++ n :: xs.drop k
  | [], n, k, hk, _, _ => by
    have : k = 0 := by simpa using hk
    subst this; simp [putI]
  | x :: xs, n, 0, _, _, h => by
    have h0 := h (by simp)
    simp only [List.getElem?_cons_zero, Option.getD_some] at h0
    unfold putI
    rw [if_neg (by omega)]
    by_cases e : x = n
    · rw [if_pos e, if_pos ⟨by simp, by simpa using e⟩]
    · rw [if_neg e, if_neg (by simp; exact e)]; simp
  | x :: xs, n, k + 1, hk, hl, h => by
    have hx : x < n := by have := hl 0 (by omega); simpa using this
    unfold putI
    rw [if_pos hx, putI_at k (by simpa using hk) (fun i hi => by have := hl (i + 1) (by omega); simpa using this) (fun hlt => by have := h (by simpa using hlt); simpa using this)]
    by_cases e : k < xs.length ∧ xs[k]?.getD 0 = n
    · rw [if_pos e, if_pos ⟨by simpa using e.1, by simpa using e.2⟩]
    · rw [if_neg e, if_neg (fun h2 => e ⟨by simpa using h2.1, by simpa using h2.2⟩)]; simp
theorem putI_len : ∀ (xs : List Int) (n : Int), (putI xs n).length ≤ xs.length + 1
  | [], n => by simp [putI]
  | x :: xs, n => by
    unfold putI
    split
    · have := putI_len xs n; simp; omega
    · split <;> simp
theorem ust_put (r : List Int) (x : Int) : ust (r ++ [x]) = putI (ust r) x := by
  refine ust_of (putI_asc (ust_asc r)) fun y => ?_
  rw [putI_mem, ust_mem, List.mem_append]
  simp [or_comm]
theorem ust_nil : ust [] = [] := List.eq_nil_of_length_eq_zero (by have := ust_len []; simpa using this)

abbrev alA (zs : List Alm) (i : Nat) : Alm := zs[i]?.getD nilA
def alOk (zs : List Alm) (i : Nat) : Bool := inB (alA zs i).t 0 1000000 && (inB (alA zs i).l 1 999 && !(decide (0 < i) && decide ((alA zs i).t < (alA zs (i - 1)).t)))
def albOk (zs : List Alm) (gap : Int) : Bool := decide (zs.length ≤ 40) && (inB gap 0 1000000 && (List.range zs.length).all (alOk zs))
/-- Does alarm k begin a burst? -/
def newB (zs : List Alm) (gap : Int) (k : Nat) : Bool := decide (k = 0) || decide (gap < (alA zs k).t - (alA zs (k - 1)).t)
def addL (R : List (List Int)) (r : List Int) : List (List Int) := R.set (R.length - 1) r
def lastL (R : List (List Int)) : List Int := R[R.length - 1]?.getD []
def rwB (zs : List Alm) (gap : Int) (k : Nat) (R : List (List Int)) : List (List Int) := if newB zs gap k then R ++ [[]] else R
def rwA (zs : List Alm) (gap : Int) : Nat → List (List Int)
  | 0 => []
  | k + 1 => addL (rwB zs gap k (rwA zs gap k)) (lastL (rwB zs gap k (rwA zs gap k)) ++ [(alA zs k).l])
def rwS (zs : List Alm) (gap : Int) : Nat → List (List Int)
  | 0 => []
  | k + 1 => addL (rwB zs gap k (rwS zs gap k)) (putI (lastL (rwB zs gap k (rwS zs gap k))) (alA zs k).l)
theorem rw_map (zs : List Alm) (gap : Int) (k : Nat) : (rwA zs gap k).map ust = rwS zs gap k := by
  induction k with
  | zero => rfl
  | succ k ih =>
    have hB : (rwB zs gap k (rwA zs gap k)).map ust = rwB zs gap k (rwS zs gap k) := by
      unfold rwB
      split
      · rw [List.map_append, ih, List.map_cons, ust_nil]; rfl
      · exact ih
    have hl : ust (lastL (rwB zs gap k (rwA zs gap k))) = lastL (rwB zs gap k (rwS zs gap k)) := by
      unfold lastL
      rw [← hB, List.length_map, List.getElem?_map]
      cases (rwB zs gap k (rwA zs gap k))[(rwB zs gap k (rwA zs gap k)).length - 1]?
      · exact ust_nil
      · rfl
    show (addL (rwB zs gap k (rwA zs gap k)) (lastL (rwB zs gap k (rwA zs gap k)) ++ [(alA zs k).l])).map ust = addL (rwB zs gap k (rwS zs gap k)) (putI (lastL (rwB zs gap k (rwS zs gap k))) (alA zs k).l)
    unfold addL
    rw [List.map_set, ust_put, hl, hB, ← hB, List.length_map]
theorem addL_len (R : List (List Int)) (r : List Int) : (addL R r).length = R.length := by simp [addL]
theorem rwB_len (zs : List Alm) (gap : Int) (k : Nat) (R : List (List Int)) : (rwB zs gap k R).length = if newB zs gap k then R.length + 1 else R.length := by
  unfold rwB; split <;> simp
theorem tot_set (R : List (List Int)) (j : Nat) (r : List Int) (h : r.length ≤ (R[j]?.getD []).length + 1) : tot (R.set j r) ≤ tot R + 1 := by
  induction R generalizing j with
  | nil => simp [tot]
  | cons x R ih =>
    cases j with
    | zero => simp [tot] at h ⊢; omega
    | succ j =>
      have := ih j (by simpa using h)
      simp [tot] at this ⊢; omega
theorem rwS_tot (zs : List Alm) (gap : Int) (k : Nat) : tot (rwS zs gap k) ≤ k := by
  induction k with
  | zero => simp [rwS, tot]
  | succ k ih =>
    have hB : tot (rwB zs gap k (rwS zs gap k)) = tot (rwS zs gap k) := by
      unfold rwB; split
      · simp [tot]
      · rfl
    have := tot_set (rwB zs gap k (rwS zs gap k)) ((rwB zs gap k (rwS zs gap k)).length - 1) (putI (lastL (rwB zs gap k (rwS zs gap k))) (alA zs k).l) (putI_len _ _)
    show tot (addL _ _) ≤ k + 1
    unfold addL
    omega
def albR (zs : List Alm) (gap : Int) : List (List Int) := if albOk zs gap then rwS zs gap zs.length else []
def AlbP (zs : List Alm) (gap : Int) (w : World) (e : Ending) (w' : World) : Prop := ∃ v, e = .returned (.tuple #[v, .bool (albOk zs gap)]) ∧ Ofr w' w.heap.size (ssD (albR zs gap)) v ∧ Below w.heap.size w w'
end Go.Proofs.YtmkkdenhjfjmgaaGreat
namespace Go.Proofs.YtmkkdenhjfjmgaaGreat
open Go.RowKit

theorem Own.pushed' {w : World} {base : Nat} {v : Value} {xs : List Int} {g off n cap : Nat} (h : Own w base v xs) (hv : v = .slice (some ⟨g, off, none⟩) n cap) (hc : n + 1 ≤ cap) (u : Int) :
    Own (w.setCell ⟨g, off + n, none⟩ (.int .i64 u)) base (.slice (some ⟨g, off, none⟩) (n + 1) cap) (xs ++ [u]) ∧ w.grownBy (w.setCell ⟨g, off + n, none⟩ (.int .i64 u)) (some g) := by
  rcases h with ⟨rfl, rfl⟩ | ⟨g', off', cap', cur, hv', hb, ⟨T, hg⟩, h1, h2, h3, h4⟩
  · simp at hv
  · rw [hv'] at hv
    simp only [Value.slice.injEq, Option.some.injEq, Addr.mk.injEq, and_true] at hv
    obtain ⟨⟨rfl, rfl⟩, rfl, rfl⟩ := hv
    refine ⟨.inr ⟨g', off', cap', cur.setIfInBounds (off' + xs.length) (.int .i64 u), by simp, hb, ⟨T, heap_setCell_same w g' (off' + xs.length) cur _ _ hg⟩, by simpa using hc, h2, by simpa using h3, ?_⟩,
      ⟨rfl, rfl, rfl, by simp, fun k _ hk => heap_setCell_other w ⟨g', off' + xs.length, none⟩ k _ (fun e => hk (by simp [e]))⟩⟩
    have hlt : xs.length < (cur.toList.drop off').length := by simp; omega
    rw [Array.toList_setIfInBounds, List.length_append]
    show List.take (xs.length + 1) (List.drop off' (cur.toList.set (off' + xs.length) (.int .i64 u))) = (xs ++ [u]).map (Value.int .i64)
    rw [List.map_append]
    show _ = ints xs ++ [Value.int .i64 u]
    rw [← h4, List.drop_set, if_neg (by omega), Nat.add_sub_cancel_left, List.take_add_one, List.getElem?_set_self hlt, List.take_set, List.set_eq_of_length_le (by simp; omega)]
    rfl
/-- append of one integer to an own slice, nil too; the new element's block has just been laid. -/
theorem wpList_pushI {P : Program} {ops : Array Oper} {rest : List Oper} {o : Oper} {a : Act} {Q : Exit → Act → World → Prop} {wr : World} {y : Int} (hgd : o.guard = none) (s x : Operand) (T : TypeId)
    (ho : o.op = .call { callee := .builtin .append, args := #[s, x], argTypes := #[T, T] }) (ht : P.underlying T = some (.slice 3))
    (hinfo : (P.info? 3).map (fun i => (i.zero, i.size, i.bytes)) = some (some (.int .i64 0), 1, 8))
    (base : Nat) (v : Value) (xs : List Int) (hs : a.eval s = v) (hown : Own wr base v xs)
    (hx : a.eval x = .slice (some ⟨wr.heap.size, 0, none⟩) 1 1) (hn : xs.length ≤ 4000000) (hbase : base ≤ wr.heap.size)
    (h : ∀ v' w', Own w' base v' (xs ++ [y]) → wr.grownBy w' v.ownBlock → (∀ g, v'.ownBlock = some g → v.ownBlock = some g ∨ wr.heap.size ≤ g) → wpList P ops Q rest (a.put o.dst v') w') :
    wpList P ops Q (o :: rest) a (wr.alloc (.cells #[.int .i64 y] 3)) := by
  have h0 := hown
  rcases hown with ⟨rfl, rfl⟩ | ⟨g, f, cap, cur, rfl, hb, ⟨T', hg⟩, h1, h2, h3, h4⟩
  · obtain ⟨i0, hi, hz0, hz1, hz2⟩ := info_parts hinfo
    have hr : (wr.alloc (.cells #[.int .i64 y] 3)).ownsRow wr.heap.size 3 1 (.slice none 0 0) 0 (ints []) := ⟨by simp, .inl ⟨rfl, rfl⟩⟩
    refine wpList_append_own _ hgd s x T ho wr.heap.size 3 i0 (.int .i64 0) 1 8 ht hi hz0 hz1 hz2 rfl (by decide) (.slice none 0 0) 0 (ints []) hs hr ⟨wr.heap.size, 0, none⟩ 1 1 [.int .i64 y] hx rfl ?_ ?_ (by unfold maxLen; omega) (by omega) (by simp) ?_
    · intro j u hu
      rcases j with _ | j
      · simp at hu; subst hu
        simp [Addr.add, World.cell?_alloc_at]
      · simp at hu
    · intro u hu; simp at hu; subst hu; rfl
    · intro v' w' g1 g2 _
      have g3 : w'.ownsRow wr.heap.size 3 1 v' (0 + 1) (ints ([] ++ [y])) := by simpa [ints] using g1
      have o3 := own_of_row g3
      exact h v' w' (o3.mono hbase) ((World.grownBy_alloc _ _ _).trans' g2) (fun g hg => .inr (o3.lt g hg).1)
  · obtain ⟨i0, hi, hz0, hz1, hz2⟩ := info_parts hinfo
    have hba : Below wr.heap.size wr (wr.alloc (.cells #[.int .i64 y] 3)) := (Below.refl _ _).alloc (Nat.le_refl _) _
    have ho2 := h0.belowAll hba
    obtain ⟨hl, hc⟩ := ho2.cellAt rfl
    have hg0 : wr.grownBy (wr.alloc (.cells #[.int .i64 y] 3)) (some g) := ⟨hba.os, hba.tape, hba.output, hba.size, fun k hk _ => hba.block k hk⟩
    refine wpList_append_arg _ hgd s x T ho 3 i0 (.int .i64 0) 1 8 ht hi hz0 hz1 hz2 rfl (by decide) g f xs.length cap (ints xs) hs (by simp [hl]) ?_ ⟨wr.heap.size, 0, none⟩ 1 1 [.int .i64 y] hx rfl ?_ ?_ ?_ (by unfold maxLen; omega) (by omega) ?_ ?_
    · intro j u hu
      have hj : j < xs.length := by have := (List.getElem?_eq_some_iff.1 hu).1; simpa using this
      rw [hc j hj, ← hu]
      simp [hj]
    · intro j u hu
      rcases j with _ | j
      · simp at hu; subst hu
        simp [Addr.add, World.cell?_alloc_at]
      · simp at hu
    · intro u hu
      simp at hu; subst hu; rfl
    · intro hr j hj
      obtain rfl : j = 0 := by simpa using hj
      have hblt : g < wr.heap.size := (Array.getElem?_eq_some_iff.1 hg).1
      have hg' : (wr.alloc (.cells #[.int .i64 y] 3)).heap[g]? = some (.cells cur T' (0, 0)) := (hba.block g hblt).trans hg
      refine ⟨?_, frozen_of_row _ _ _ _ _ hg'⟩
      rw [cell_of_row _ _ _ _ _ _ hg']
      simp; omega
    · intro hr
      have hst := ho2.pushed' rfl (by omega) y
      rw [show f + xs.length * 1 = f + xs.length from by omega]
      exact h _ _ hst.1 (hg0.trans' hst.2) (fun g' hg' => .inl (by simpa [Value.ownBlock] using hg'))
    · intro hr v' w' h1 h2
      have h3 : w'.ownsRow (wr.alloc (.cells #[.int .i64 y] 3)).heap.size 3 1 v' (xs.length + 1) (ints (xs ++ [y])) := by simpa [ints] using h1
      have o3 := own_of_row h3
      exact h v' w' (o3.mono (by simp; omega)) (hg0.trans' ⟨h2.os, h2.tape, h2.output, h2.size, fun k hk _ => h2.block k hk (by simp)⟩) (fun g' hg' => .inr (by have := (o3.lt g' hg').1; simp at this; omega))

theorem flat_put2 {fs : List (List Nat)} {f : List Nat} {lo j : Nat} (hn : fs.flatten.Nodup) (hlt : ∀ k ∈ fs.flatten, k < lo) (hj : j < fs.length) (hf : f.Nodup) (hge : ∀ k ∈ f, k ∈ fs[j] ∨ lo ≤ k) :
    (fs.set j f).flatten.Nodup ∧ ∀ k ∈ (fs.set j f).flatten, k ∈ fs.flatten ∨ lo ≤ k := by
  have hmem : ∀ k ∈ (fs.set j f).flatten, k ∈ fs.flatten ∨ lo ≤ k := fun k hk => by
    obtain ⟨i, hi, h2⟩ := mem_flat_get hk
    rw [List.length_set] at hi
    by_cases e : j = i
    · subst e; rw [List.getElem_set_self] at h2
      rcases hge k h2 with h3 | h3
      · exact .inl (List.mem_flatten.2 ⟨_, List.getElem_mem hj, h3⟩)
      · exact .inr h3
    · rw [List.getElem_set_ne e] at h2; exact .inl (List.mem_flatten.2 ⟨_, List.getElem_mem hi, h2⟩)
  refine ⟨?_, hmem⟩
  obtain ⟨h1, h2⟩ := nodup_flatten.1 hn
  rw [List.pairwise_iff_getElem] at h2
  have hlt' : ∀ i (hi : i < fs.length), ∀ k ∈ fs[i], k < lo := fun i hi k hk => hlt k (List.mem_flatten.2 ⟨_, List.getElem_mem hi, hk⟩)
  refine nodup_flatten.2 ⟨fun g hg => ?_, ?_⟩
  · obtain ⟨i, hi, rfl⟩ := List.mem_iff_getElem.1 hg
    rw [List.length_set] at hi
    by_cases e : j = i
    · subst e; rw [List.getElem_set_self]; exact hf
    · rw [List.getElem_set_ne e]; exact h1 _ (List.getElem_mem hi)
  · rw [List.pairwise_iff_getElem]
    intro a b ha hb hab x hx y hy
    rw [List.length_set] at ha hb
    by_cases ea : j = a
    · subst ea
      rw [List.getElem_set_self] at hx
      rw [List.getElem_set_ne (by omega)] at hy
      rcases hge x hx with h3 | h3
      · exact h2 j b ha hb hab x h3 y hy
      · have := hlt' b hb y hy; omega
    · rw [List.getElem_set_ne ea] at hx
      by_cases eb : j = b
      · subst eb
        rw [List.getElem_set_self] at hy
        rcases hge y hy with h3 | h3
        · exact h2 a j ha hb hab x hx y h3
        · have := hlt' a ha x hx; omega
      · rw [List.getElem_set_ne eb] at hy
        exact h2 a b ha hb hab x hx y hy
/-- An element of a row under way is turned, in its own blocks or into new ones, and stored. -/
theorem Grw.deep {w : World} {base size n : Nat} {T : TypeId} {v : Value} {ds : List Dt} (h : Grw w base T size v n ds) {j : Nat} {d : Dt} (hj : ds[j]? = some d) :
    ∃ g cap u f, v = .slice (some ⟨g, 0, none⟩) n cap ∧ w.cell? ⟨g, j, none⟩ = some u ∧ base ≤ g ∧ g < w.heap.size ∧ Odt w d u f ∧ f.Nodup ∧ (∀ k ∈ f, base ≤ k ∧ k < w.heap.size) ∧ g ∉ f ∧
      ∀ (w' : World) (d' : Dt) (u' : Value) (f' : List Nat), Odt w' d' u' f' → f'.Nodup → (∀ k ∈ f', k ∈ f ∨ w.heap.size ≤ k) → base ≤ w.heap.size → Wr w w' f →
        (∃ u0, w'.cell? ⟨g, j, none⟩ = some u0) ∧ w'.frozen? ⟨g, j, none⟩ = false ∧ Grw (w'.setCell ⟨g, j, none⟩ u') base T size v n (ds.set j d') := by
  obtain ⟨us, fs, h1, h2, h3, h4, h5, h6, h7⟩ := h
  have hjl : j < ds.length := (List.getElem?_eq_some_iff.1 hj).1
  have hju : us[j]? = some (us[j]'(by omega)) := List.getElem?_eq_getElem (by omega)
  have hjf : fs[j]? = some (fs[j]'(by omega)) := List.getElem?_eq_getElem (by omega)
  have hsub : ∀ k ∈ fs[j]'(by omega), k ∈ fs.flatten := fun k hk => List.mem_flatten.2 ⟨_, List.getElem_mem _, hk⟩
  have hlt : ∀ k ∈ fs.flatten, k < w.heap.size := Grw.flt h2 h3 h4
  rcases h1.2 with ⟨rfl, h0⟩ | ⟨g, cap, cur, rfl, q1, q2, q3, q4, q5, q6⟩
  · have := h1.1; rw [h0] at this; omega
  have hgf : g ∉ fs.flatten := h7 g rfl
  have hgl : g < w.heap.size := (Array.getElem?_eq_some_iff.1 q2).1
  obtain ⟨hn1, hn2⟩ := nodup_flatten.1 h5
  rw [List.pairwise_iff_getElem] at hn2
  have htk : (cur.toList.drop 0).take (n * size) = us := by rw [List.drop_zero]; exact q6
  refine ⟨g, cap, _, _, rfl, ?_, q1, hgl, h4 j d _ _ hj hju hjf, hn1 _ (List.getElem_mem _), fun k hk => ⟨h6 k (hsub k hk), hlt k (hsub k hk)⟩, fun e => hgf (hsub g e), fun w' d' u' f' hd hnd hnew hbase hw => ?_⟩
  · have := row_cell q2 htk hju h1.1
    rw [Nat.zero_add] at this; exact this
  have hg' : w'.heap[g]? = some (.cells cur T (0, 0)) := by rw [hw.block g hgl (fun e => hgf (hsub g e))]; exact q2
  have hcell : w'.cell? ⟨g, j, none⟩ = some (us[j]'(by omega)) := by
    have := row_cell hg' htk hju h1.1
    rw [Nat.zero_add] at this; exact this
  obtain ⟨p1, p2⟩ := flat_put2 h5 hlt (show j < fs.length by omega) hnd hnew
  have hset : ∀ k, k ≠ g → (w'.setCell ⟨g, j, none⟩ u').heap[k]? = w'.heap[k]? := fun k hk => heap_setCell_other w' ⟨g, j, none⟩ k u' hk
  have hgs : g ∉ (fs.set j f').flatten := fun e => by
    rcases p2 g e with e | e
    · exact hgf e
    · omega
  refine ⟨⟨_, hcell⟩, frozen_of_row _ _ _ _ _ hg', us.set j u', fs.set j f', ⟨by rw [List.length_set]; exact h1.1, .inr ⟨g, cap, cur.setIfInBounds j u', rfl, q1, heap_setCell_same w' g j cur T u' hg', q3, q4, by simpa using q5, ?_⟩⟩, by rw [List.length_set, List.length_set]; exact h2, by rw [List.length_set, List.length_set]; exact h3, fun i d2 u2 f2 e1 e2 e3 => ?_, p1, fun k hk => ?_, fun k hk => ?_⟩
  · rw [Array.toList_setIfInBounds, List.take_set, q6]
  · by_cases e : j = i
    · subst e
      rw [List.getElem?_set_self hjl] at e1
      rw [List.getElem?_set_self (by omega)] at e2
      rw [List.getElem?_set_self (by omega)] at e3
      cases e1; cases e2; cases e3
      exact hd.kept fun k hk => hset k (fun e => hgs (List.mem_flatten.2 ⟨f', List.mem_iff_getElem.2 ⟨j, by rw [List.length_set]; omega, List.getElem_set_self _⟩, by rw [← e]; exact hk⟩))
    · rw [List.getElem?_set_ne e] at e1 e2 e3
      have hil : i < fs.length := (List.getElem?_eq_some_iff.1 e3).1
      have e4 : fs[i] = f2 := (List.getElem?_eq_some_iff.1 e3).2
      have hd2 := h4 i d2 u2 f2 e1 e2 e3
      refine hd2.kept fun k hk => ?_
      have hkf : k ∈ fs.flatten := List.mem_flatten.2 ⟨f2, List.mem_of_getElem? e3, hk⟩
      rw [hset k (fun e => hgf (by rw [← e]; exact hkf)), hw.block k (hlt k hkf) (fun hk2 => ?_)]
      rw [← e4] at hk
      rcases Nat.lt_or_gt_of_ne e with hlt2 | hgt
      · exact hn2 j i (by omega) hil hlt2 k hk2 k hk rfl
      · exact hn2 i j hil (by omega) hgt k hk k hk2 rfl
  · rcases p2 k hk with e | e
    · exact h6 k e
    · omega
  · have : g = k := by simpa [Value.ownBlock] using hk
    rw [← this]; exact hgs
end Go.Proofs.YtmkkdenhjfjmgaaGreat
namespace Go.Proofs.YtmkkdenhjfjmgaaGreat
open Go.RowKit

theorem Grw.deepI {w W : World} {base n : Nat} {T : TypeId} {v : Value} {R : List (List Int)} (h : Grw w base T 1 v n (R.map inD)) {j : Nat} (hj : j < R.length) (hb : base ≤ w.heap.size) (hB : Below base W w) :
    ∃ g cap u, v = .slice (some ⟨g, 0, none⟩) n cap ∧ w.cell? ⟨g, j, none⟩ = some u ∧ g < w.heap.size ∧ Own w base u (R[j]?.getD []) ∧ (∀ k, u.ownBlock = some k → k ≠ g) ∧
      ∀ (w' : World) (u' : Value) (xs' : List Int), Own w' base u' xs' → (∀ k, u'.ownBlock = some k → u.ownBlock = some k ∨ w.heap.size ≤ k) → w.grownBy w' u.ownBlock →
        (∃ u0, w'.cell? ⟨g, j, none⟩ = some u0) ∧ w'.frozen? ⟨g, j, none⟩ = false ∧ Grw (w'.setCell ⟨g, j, none⟩ u') base T 1 v n ((R.set j xs').map inD) ∧ Below base W (w'.setCell ⟨g, j, none⟩ u') := by
  have hd : (R.map inD)[j]? = some (inD (R[j]?.getD [])) := by rw [List.getElem?_map, List.getElem?_eq_getElem hj]; rfl
  obtain ⟨g, cap, u, f, rfl, h1, h2, h3, h4, h5, h6, h7, h8⟩ := h.deep hd
  have hf := inD_fp h4
  have ho := (h4.toOwn (fun k hk => (h6 k hk).1)).1
  refine ⟨g, cap, u, rfl, h1, h3, ho, fun k hk e => h7 (by rw [hf, hk, ← e]; simp), fun w' u' xs' o hk hg => ?_⟩
  have hwr : Wr w w' f := Wr.of_grown hg (fun k hk => by rw [hf, hk]; simp)
  have hfn : u'.ownBlock.toList.Nodup := by cases u'.ownBlock <;> simp
  obtain ⟨q1, q2, q3⟩ := h8 w' (inD xs') u' u'.ownBlock.toList o.odt hfn (fun k hk' => by
    have : u'.ownBlock = some k := by simpa using hk'
    rcases hk k this with e | e
    · exact .inl (by rw [hf, e]; simp)
    · exact .inr e) hb hwr
  refine ⟨q1, q2, ?_, ?_⟩
  · rw [List.map_set]; exact q3
  · exact (hwr.below hB hb (fun k hk => (h6 k hk).1)).setCell h2 _
theorem albOk_sz {zs : List Alm} {gap : Int} (h : ¬ zs.length ≤ 40) : albOk zs gap = false := by unfold albOk; rw [decide_eq_false h]; rfl
theorem albOk_gap {zs : List Alm} {gap : Int} (h : inB gap 0 1000000 = false) : albOk zs gap = false := by unfold albOk; rw [h]; simp
theorem albOk_at {zs : List Alm} {gap : Int} {i : Nat} (hi : i < zs.length) (h : alOk zs i = false) : albOk zs gap = false := by unfold albOk; rw [rng_no hi h]; simp
theorem albOk_all {zs : List Alm} {gap : Int} (h1 : zs.length ≤ 40) (h2 : inB gap 0 1000000 = true) (h3 : ∀ i, i < zs.length → alOk zs i = true) : albOk zs gap = true := by unfold albOk; rw [rng_yes h3, decide_eq_true h1, h2]; rfl
theorem AlbP.no {zs : List Alm} {gap : Int} {w w' : World} {v : Value} (h : albOk zs gap = false) (ho : Ofr w' w.heap.size (ssD []) v) (hb : Below w.heap.size w w') : AlbP zs gap w (.returned (.tuple #[v, .bool false])) w' :=
  ⟨v, by rw [h], by unfold albR; rw [h]; exact ho, hb⟩
theorem AlbP.nil {zs : List Alm} {gap : Int} {w w' : World} (h : albOk zs gap = false) (hb : Below w.heap.size w w') : AlbP zs gap w (.returned (.tuple #[.slice none 0 0, .bool false])) w' :=
  AlbP.no h (Ofr.nil _ _ _) hb
theorem AlbP.yes {zs : List Alm} {gap : Int} {w w' : World} {v : Value} (h : albOk zs gap = true) (ho : Ofr w' w.heap.size (ssD (rwS zs gap zs.length)) v) (hb : Below w.heap.size w w') : AlbP zs gap w (.returned (.tuple #[v, .bool true])) w' :=
  ⟨v, by rw [h], by unfold albR; rw [h]; exact ho, hb⟩
theorem rwA_len (zs : List Alm) (gap : Int) (k : Nat) : (rwA zs gap k).length ≤ k := by
  induction k with
  | zero => simp [rwA]
  | succ k ih =>
    show (addL _ _).length ≤ k + 1
    rw [addL_len, rwB_len]; split <;> omega
theorem rwA_pos (zs : List Alm) (gap : Int) (k : Nat) (h : 0 < k) : 0 < (rwA zs gap k).length := by
  induction k with
  | zero => omega
  | succ k ih =>
    show 0 < (addL _ _).length
    rw [addL_len, rwB_len]
    split
    · omega
    · rename_i hn
      refine ih (Nat.pos_of_ne_zero fun e => ?_)
      subst e; simp [newB] at hn
theorem rwA_row (zs : List Alm) (gap : Int) (k j : Nat) : ((rwA zs gap k)[j]?.getD []).length ≤ k := by
  induction k generalizing j with
  | zero => simp [rwA]
  | succ k ih =>
    have hB : ∀ j, ((rwB zs gap k (rwA zs gap k))[j]?.getD []).length ≤ k := fun j => by
      unfold rwB; split
      · rw [List.getElem?_append]
        split
        · exact ih j
        · rcases Nat.eq_zero_or_pos (j - (rwA zs gap k).length) with e | e
          · rw [e]; simp
          · rw [List.getElem?_eq_none (by simp; omega)]; simp
      · exact ih j
    show ((addL (rwB zs gap k (rwA zs gap k)) (lastL (rwB zs gap k (rwA zs gap k)) ++ [(alA zs k).l]))[j]?.getD []).length ≤ k + 1
    unfold addL lastL
    rw [List.getElem?_set]
    split
    · split
      · rw [Option.getD_some, List.length_append]; have := hB ((rwB zs gap k (rwA zs gap k)).length - 1); simp; omega
      · simp
    · have := hB j; omega
theorem rwS_len (zs : List Alm) (gap : Int) (k : Nat) : (rwS zs gap k).length = (rwA zs gap k).length := by rw [← rw_map]; simp
theorem rwS_row (zs : List Alm) (gap : Int) (k j : Nat) : ((rwS zs gap k)[j]?.getD []).length ≤ k := by
  by_cases h : j < (rwS zs gap k).length
  · have := tot_mem h; have := rwS_tot zs gap k; omega
  · rw [List.getElem?_eq_none (by omega)]; simp

/-! ### A list's law as one step of a drawn region -/
theorem upon_mono {P : Program} {o : Oper} {a : Act} {K K' : Act → World → Prop} {Q Q' : Exit → Act → World → Prop} (hK : ∀ a w, K a w → K' a w) (hQ : ∀ e a w, e ≠ .normal → Q e a w → Q' e a w) {r} (h : o.upon P a K Q r) : o.upon P a K' Q' r := by
  unfold Oper.upon at h ⊢
  split at h
  all_goals first
    | exact hK _ _ h
    | exact hQ _ _ _ (by simp) h
    | exact h
    | (refine Calls.mono h ?_
       rintro e w' hh
       cases e
       · exact hK _ _ hh
       · exact hQ _ _ _ (by simp) hh
       · obtain ⟨a2, w2, q⟩ := hh; exact ⟨a2, w2, hQ _ _ _ (by simp) q⟩)
    | (refine Rows.mono h ?_
       intro v w' hh
       exact hK _ _ hh)
theorem step_of_list {P : Program} {ops : Array Oper} {o : Oper} {a : Act} {w : World} {K : Act → World → Prop} {Q : Exit → Act → World → Prop} {E : Prop} (hg : o.guard = none)
    (h : wpList P ops (fun e a' w' => e = .normal ∧ K a' w') [o] a w) : if Region.wanted o (yielded ops a.tmps) = true then Oper.wp P o a w K Q else E := by
  have hw : Region.wanted o (yielded ops a.tmps) = true := by simp [Region.wanted, hg]
  rw [if_pos hw]
  unfold wpList at h
  rw [if_pos hw] at h
  rcases h with h | ⟨-, a2, w2, h, -⟩
  · unfold Oper.wp at h ⊢
    refine upon_mono (fun a w hh => ?_) (fun e a w hne hh => ?_) h
    · unfold wpList at hh; exact hh.2
    · exact absurd hh.1 hne
  · cases h
theorem grown_drew {w w' : World} {r : Option Nat} (h : w.drew.grownBy w' r) : w.grownBy w' r := ⟨h.os, h.tape, h.output, h.size, fun k hk hn => h.block k hk hn⟩

/-! ### Rows made sets, one after the other -/
def updU (R : List (List Int)) (k : Nat) : List (List Int) := (R.take k).map ust ++ R.drop k
theorem updU_zero (R : List (List Int)) : updU R 0 = R := by simp [updU]
theorem updU_len (R : List (List Int)) (k : Nat) : (updU R k).length = R.length := by simp [updU]; omega
theorem updU_all {R : List (List Int)} {k : Nat} (h : R.length ≤ k) : updU R k = R.map ust := by simp [updU, List.take_of_length_le h, List.drop_of_length_le h]
theorem updU_at {R : List (List Int)} {k : Nat} (h : k < R.length) : (updU R k)[k]?.getD [] = R[k]?.getD [] := by
  unfold updU
  rw [List.getElem?_append_right (by simp; omega)]
  simp [Nat.min_eq_left (Nat.le_of_lt h)]
theorem updU_succ {R : List (List Int)} {k : Nat} (h : k < R.length) : (updU R k).set k (ust (R[k]?.getD [])) = updU R (k + 1) := by
  unfold updU
  have hl : ((R.take k).map ust).length = k := by simp; omega
  rw [List.set_append_right _ _ (by omega), hl, Nat.sub_self, List.drop_eq_getElem_cons h, List.set_cons_zero, List.take_add_one, List.getElem?_eq_getElem h, List.map_append, List.append_assoc]
  rfl
theorem Grw.startU {w : World} {base n : Nat} {T : TypeId} {v : Value} {R : List (List Int)} (h : Grw w base T 1 v n (R.map inD)) : Grw w base T 1 v n ((updU R 0).map inD) := by rw [updU_zero]; exact h
end Go.Proofs.YtmkkdenhjfjmgaaGreat
namespace Go.Proofs.YtmkkdenhjfjmgaaGreat
open Go.RowKit Go.Sort Go.Lib

theorem sortI_own (v : Value) (xs : List Int) (base : Nat) (w : World) (h : Own w base v xs) (hl : xs.length ≤ 1099511627776) :
    Calls Tryz.prog 84 #[v] w fun e w' => e = .returned (.tuple #[]) ∧ Own w' base v (srt xs) ∧ w.grownBy w' v.ownBlock := by
  have h0 := h
  rcases h with ⟨rfl, rfl⟩ | ⟨g, off, cap, cur, rfl, hb, ⟨T, hg⟩, h1, h2, h3, h4⟩
  · refine (Tryz.slices_Sort_int_none none 0 w).mono ?_
    rintro e w' ⟨rfl, rfl⟩
    exact ⟨rfl, .inl ⟨rfl, by unfold srt; simp⟩, ⟨rfl, rfl, rfl, Nat.le_refl _, fun _ _ _ => rfl⟩⟩
  · refine (Tryz.slices_Sort_int g off cap xs w h0.holds (Array.getElem?_eq_some_iff.1 hg).1 (by omega)).mono ?_
    rintro e w' ⟨rfl, n, os, rfl⟩
    have := h0.putRow (q := n) (os := os) (ts := srt xs) (m := xs.length) (srt_len xs) (by rw [srt_len]; exact Nat.le_refl _)
    rw [List.take_of_length_le (by rw [srt_len]; exact Nat.le_refl _)] at this
    exact ⟨rfl, this, grownBy_putRow _⟩
theorem compactI_own (v : Value) (xs : List Int) (base : Nat) (w : World) (h : Own w base v xs) (hl : xs.length ≤ 1099511627776) :
    Calls Tryz.prog 85 #[v] w fun e w' => ∃ v', e = .returned v' ∧ v'.ownBlock = v.ownBlock ∧ Own w' base v' (cpt xs) ∧ w.grownBy w' v.ownBlock := by
  have h0 := h
  rcases h with ⟨rfl, rfl⟩ | ⟨g, off, cap, cur, rfl, hb, ⟨T, hg⟩, h1, h2, h3, h4⟩
  · refine (Tryz.slices_Compact_int_empty none 0 w).mono ?_
    rintro e w' ⟨rfl, rfl⟩
    exact ⟨_, rfl, rfl, .inl ⟨rfl, rfl⟩, ⟨rfl, rfl, rfl, Nat.le_refl _, fun _ _ _ => rfl⟩⟩
  · refine (Tryz.slices_Compact_int g off cap xs w h0.holds (by omega) h1).mono ?_
    rintro e w' ⟨rfl, n, rfl⟩
    have hle : (Lib.compact xs).length ≤ xs.length := cpt_len xs
    have hT : (Lib.compact xs ++ List.replicate (xs.length - (Lib.compact xs).length) 0).length = xs.length := by rw [List.length_append, List.length_replicate]; omega
    have := h0.putRow (q := n) (os := #[]) (ts := Lib.compact xs ++ List.replicate (xs.length - (Lib.compact xs).length) 0) (m := (Lib.compact xs).length) hT (by omega)
    rw [List.take_left, grow_empty] at this
    have g2 := grownBy_putRow (w := w) (g := g) (off := off) (n := n) (os := #[]) (Lib.compact xs ++ List.replicate (xs.length - (Lib.compact xs).length) 0).toArray
    rw [grow_empty] at g2
    exact ⟨_, rfl, rfl, this, g2⟩
end Go.Proofs.YtmkkdenhjfjmgaaGreat
