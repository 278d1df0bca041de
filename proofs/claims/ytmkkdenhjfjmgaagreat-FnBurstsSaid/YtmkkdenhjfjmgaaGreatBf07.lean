/- Joined: XGrpP XHitP XDslP XBlk XMsk XBit XHas XRou XVis XCom. -/
import Derived.Test.YtmkkdenhjfjmgaaGreatBf06
import Derived.Test.YtmkkdenhjfjmgaaGreatBf03
import Derived.Test.YtmkkdenhjfjmgaaGreatBf01
import Derived.Lib.QuietBelow
import Derived.Test.YtmkkdenhjfjmgaaGreatBf04
import Derived.Deep.RegionLaw
import Derived.Deep.CutRange
namespace Go.Proofs.YtmkkdenhjfjmgaaGreat
open Go.RowKit

/-- The fibers of a risk among the first k. -/
def grpTo (n : Net) (g : Int) (k : Nat) : List Int := ((List.range k).filter fun i => decide ((fbA n i).r = g)).map fun i : Nat => (i : Int)
def grp (n : Net) (g : Int) : List Int := grpTo n g n.fs.length
theorem grpTo_yes {n : Net} {g : Int} {k : Nat} (h : (fbA n k).r = g) : grpTo n g (k + 1) = grpTo n g k ++ [(k : Int)] := by
  unfold grpTo
  rw [List.range_succ, List.filter_append, List.map_append]
  simp [h]
theorem grpTo_no {n : Net} {g : Int} {k : Nat} (h : ¬ (fbA n k).r = g) : grpTo n g (k + 1) = grpTo n g k := by
  unfold grpTo
  rw [List.range_succ, List.filter_append, List.map_append]
  simp [h]
theorem grpTo_len (n : Net) (g : Int) (k : Nat) : (grpTo n g k).length ≤ k := by
  unfold grpTo
  rw [List.length_map]
  exact Nat.le_trans (List.length_filter_le _ _) (by simp)
/-- The groups of the risks 1 to g. -/
def gA (n : Net) : Nat → List (List Int)
  | 0 => []
  | g + 1 => if (grp n ((g + 1 : Nat) : Int)).length = 0 then gA n g else gA n g ++ [grp n ((g + 1 : Nat) : Int)]
/-- The fibers without a risk, each a group. -/
def gS (n : Net) : Nat → List (List Int)
  | 0 => []
  | k + 1 => if (fbA n k).r = 0 then gS n k ++ [[(k : Int)]] else gS n k
def grps (n : Net) : List (List Int) := gA n 9 ++ gS n n.fs.length
theorem gA_len (n : Net) (g : Nat) : (gA n g).length ≤ g := by
  induction g with
  | zero => simp [gA]
  | succ g ih =>
    unfold gA
    split
    · omega
    · rw [List.length_append]; simp; omega
theorem gS_len (n : Net) (k : Nat) : (gS n k).length ≤ k := by
  induction k with
  | zero => simp [gS]
  | succ k ih =>
    unfold gS
    split
    · rw [List.length_append]; simp; omega
    · omega
/-- The group of a fiber. -/
def grpF (n : Net) (i : Nat) : List Int := if (fbA n i).r = 0 then [(i : Int)] else grp n (fbA n i).r
/-- Strictly rising numbers below m. -/
def seAt (xs : List Int) (m : Int) (i : Nat) : Bool := inB (xs[i]?.getD 0) 0 (m - 1) && !(decide (0 < i) && decide (xs[i]?.getD 0 ≤ xs[i - 1]?.getD 0))
def setOk (xs : List Int) (m : Int) : Bool := (List.range xs.length).all (seAt xs m)
theorem setOk_at {xs : List Int} {m : Int} {i : Nat} (hi : i < xs.length) (h : seAt xs m i = false) : setOk xs m = false := rng_no hi h
theorem setOk_all {xs : List Int} {m : Int} (h : ∀ i, i < xs.length → seAt xs m i = true) : setOk xs m = true := rng_yes h
end Go.Proofs.YtmkkdenhjfjmgaaGreat
namespace Go.Proofs.YtmkkdenhjfjmgaaGreat
open Go.RowKit

def grA (n : Net) (g : Int) : List Int := (grps n)[g.toNat]?.getD []
def fof (n : Net) (gs : List Int) : List Int := gs.flatMap (grA n)
def hitL (p : Pln) (gs : List Int) (x : Lgt) : Bool := meets x.fb (fof p.n gs)
def hitTo (p : Pln) (gs : List Int) (k : Nat) : List Int := ((p.ls.take k).filter (hitL p gs)).map (·.id)
def hts (p : Pln) (gs : List Int) : List Int := hitTo p gs p.ls.length
theorem meets_app (xs ys zs : List Int) : meets xs (ys ++ zs) = (meets xs ys || meets xs zs) := by
  rw [Bool.eq_iff_iff]
  unfold meets
  simp only [Bool.or_eq_true, List.any_eq_true, List.contains_iff_mem, List.mem_append]
  constructor
  · rintro ⟨x, h, e | e⟩
    · exact .inl ⟨x, h, e⟩
    · exact .inr ⟨x, h, e⟩
  · rintro (⟨x, h, e⟩ | ⟨x, h, e⟩)
    · exact ⟨x, h, .inl e⟩
    · exact ⟨x, h, .inr e⟩
theorem meets_nil (xs : List Int) : meets xs [] = false := by
  unfold meets; simp
theorem hitL_any (p : Pln) (gs : List Int) (x : Lgt) : hitL p gs x = gs.any fun g => meets x.fb (grA p.n g) := by
  unfold hitL fof
  induction gs with
  | nil => simp [meets_nil]
  | cons g gs ih => rw [List.flatMap_cons, meets_app, List.any_cons, ih]
theorem hitTo_yes {p : Pln} {gs : List Int} {k : Nat} (hk : k < p.ls.length) (h : meets (lgA p k).fb (fof p.n gs) = true) : hitTo p gs (k + 1) = hitTo p gs k ++ [(lgA p k).id] := by
  unfold lgA at h ⊢
  unfold hitTo
  rw [List.getElem?_eq_getElem hk] at h ⊢
  rw [List.take_add_one, List.filter_append, List.map_append, List.getElem?_eq_getElem hk]
  have : hitL p gs p.ls[k] = true := h
  simp [this]
theorem hitTo_no {p : Pln} {gs : List Int} {k : Nat} (hk : k < p.ls.length) (h : meets (lgA p k).fb (fof p.n gs) = false) : hitTo p gs (k + 1) = hitTo p gs k := by
  unfold lgA at h
  unfold hitTo
  rw [List.getElem?_eq_getElem hk] at h
  rw [List.take_add_one, List.filter_append, List.map_append, List.getElem?_eq_getElem hk]
  have : hitL p gs p.ls[k] = false := h
  simp [this]
theorem hitTo_len (p : Pln) (gs : List Int) (k : Nat) : (hitTo p gs k).length ≤ k := by
  unfold hitTo
  rw [List.length_map]
  exact Nat.le_trans (List.length_filter_le _ _) (List.length_take_le _ _)
theorem fof_take {n : Net} {gs : List Int} {k : Nat} (hk : k < gs.length) : fof n (gs.take (k + 1)) = fof n (gs.take k) ++ grA n (gs[k]?.getD 0) := by
  unfold fof
  rw [List.take_add_one, List.flatMap_append, List.getElem?_eq_getElem hk]
  simp
theorem gA_row (n : Net) (g : Nat) : ∀ G ∈ gA n g, G.length ≤ n.fs.length := by
  induction g with
  | zero => simp [gA]
  | succ g ih =>
    intro G hG
    unfold gA at hG
    split at hG
    · exact ih G hG
    · rcases List.mem_append.1 hG with h | h
      · exact ih G h
      · rw [List.mem_singleton.1 h]; exact grpTo_len _ _ _
theorem gS_row (n : Net) (k : Nat) : ∀ G ∈ gS n k, G.length ≤ 1 := by
  induction k with
  | zero => simp [gS]
  | succ k ih =>
    intro G hG
    unfold gS at hG
    split at hG
    · rcases List.mem_append.1 hG with h | h
      · exact ih G h
      · rw [List.mem_singleton.1 h]; exact Nat.le_refl _
    · exact ih G hG
theorem grps_len (n : Net) : (grps n).length ≤ 9 + n.fs.length := by
  unfold grps; rw [List.length_append]; have := gA_len n 9; have := gS_len n n.fs.length; omega
theorem grA_len (n : Net) (g : Int) : (grA n g).length ≤ n.fs.length + 1 := by
  unfold grA
  by_cases h : g.toNat < (grps n).length
  · rw [List.getElem?_eq_getElem h, Option.getD_some]
    have hm : (grps n)[g.toNat] ∈ gA n 9 ++ gS n n.fs.length := List.getElem_mem h
    rcases List.mem_append.1 hm with q | q
    · have := gA_row n 9 _ q; omega
    · have := gS_row n n.fs.length _ q; omega
  · rw [List.getElem?_eq_none (by omega)]; simp
theorem fof_len (n : Net) (gs : List Int) (k : Nat) : (fof n (gs.take k)).length ≤ k * (n.fs.length + 1) := by
  induction k with
  | zero => simp [fof]
  | succ k ih =>
    by_cases hk : k < gs.length
    · rw [fof_take hk, List.length_append, Nat.succ_mul]; have := grA_len n (gs[k]?.getD 0); omega
    · rw [List.take_of_length_le (by omega)]
      rw [List.take_of_length_le (by omega)] at ih
      rw [Nat.succ_mul]; omega

/-! ### Bits -/
def mkTo (p : Pln) (G : List Int) : Nat → Nat
  | 0 => 0
  | k + 1 => if meets (lgA p k).fb G then mkTo p G k ||| 2 ^ k else mkTo p G k
def hmks (p : Pln) : List Nat := (grps p.n).map fun G => mkTo p G p.ls.length
def uni (ms : List Nat) (gs : List Int) : Nat := gs.foldl (fun m g => m ||| ms[g.toNat]?.getD 0) 0
def nats (ms : List Nat) : List Int := ms.map fun k : Nat => (k : Int)
theorem nats_len (ms : List Nat) : (nats ms).length = ms.length := by simp [nats]
theorem nats_at (ms : List Nat) (i : Nat) : (nats ms)[i]?.getD 0 = ((ms[i]?.getD 0 : Nat) : Int) := by
  unfold nats
  rw [List.getElem?_map]
  cases ms[i]? <;> rfl
theorem mkTo_bit (p : Pln) (G : List Int) (k i : Nat) : (mkTo p G k).testBit i = (decide (i < k) && meets (lgA p i).fb G) := by
  induction k with
  | zero => simp [mkTo]
  | succ k ih =>
    unfold mkTo
    split
    · rename_i h
      rw [Nat.testBit_or, ih, Nat.testBit_two_pow]
      by_cases e : k = i
      · subst e; simp [h]
      · have : decide (i < k + 1) = decide (i < k) := by rw [decide_eq_decide]; omega
        simp [e, this]
    · rename_i h
      rw [ih]
      by_cases e : k = i
      · subst e; simp [h]
      · have : decide (i < k + 1) = decide (i < k) := by rw [decide_eq_decide]; omega
        rw [this]
theorem or_lt {a b k : Nat} (ha : a < 2 ^ k) (hb : b < 2 ^ k) : a ||| b < 2 ^ k := Nat.or_lt_two_pow ha hb
theorem mkTo_lt (p : Pln) (G : List Int) (k : Nat) : mkTo p G k < 2 ^ k := by
  induction k with
  | zero => simp [mkTo]
  | succ k ih =>
    have h1 : mkTo p G k < 2 ^ (k + 1) := Nat.lt_of_lt_of_le ih (Nat.pow_le_pow_right (by omega) (by omega))
    unfold mkTo
    split
    · exact or_lt h1 (Nat.pow_lt_pow_right (by omega) (by omega))
    · exact h1
theorem uni_take {ms : List Nat} {gs : List Int} {k : Nat} (hk : k < gs.length) : uni ms (gs.take (k + 1)) = uni ms (gs.take k) ||| (ms[(gs[k]?.getD 0).toNat]?.getD 0) := by
  unfold uni
  rw [List.take_add_one, List.foldl_append, List.getElem?_eq_getElem hk]
  rfl
theorem uni_fold (ms : List Nat) (gs : List Int) (m i : Nat) : (gs.foldl (fun m g => m ||| ms[g.toNat]?.getD 0) m).testBit i = (m.testBit i || gs.any fun g => (ms[g.toNat]?.getD 0).testBit i) := by
  induction gs generalizing m with
  | nil => simp
  | cons g gs ih => rw [List.foldl_cons, ih, Nat.testBit_or, List.any_cons, Bool.or_assoc]
theorem uni_bit (ms : List Nat) (gs : List Int) (i : Nat) : (uni ms gs).testBit i = gs.any fun g => (ms[g.toNat]?.getD 0).testBit i := by
  unfold uni; rw [uni_fold]; simp
theorem uni_lt {ms : List Nat} {gs : List Int} {b : Nat} (h : ∀ m ∈ ms, m < 2 ^ b) : uni ms gs < 2 ^ b := by
  have hg : ∀ g : Int, ms[g.toNat]?.getD 0 < 2 ^ b := fun g => by
    by_cases hi : g.toNat < ms.length
    · rw [List.getElem?_eq_getElem hi]; exact h _ (List.getElem_mem hi)
    · rw [List.getElem?_eq_none (by omega)]; exact Nat.two_pow_pos b
  have : ∀ (gs : List Int) (m : Nat), m < 2 ^ b → gs.foldl (fun m g => m ||| ms[g.toNat]?.getD 0) m < 2 ^ b := fun gs => by
    induction gs with
    | nil => intro m hm; exact hm
    | cons g gs ih => intro m hm; rw [List.foldl_cons]; exact ih _ (or_lt hm (hg g))
  exact this gs 0 (Nat.two_pow_pos b)
theorem hmks_mem (p : Pln) : ∀ m ∈ hmks p, m < 2 ^ p.ls.length := fun m hm => by
  obtain ⟨G, _, rfl⟩ := List.mem_map.1 hm
  exact mkTo_lt _ _ _
theorem hmks_bit (p : Pln) (g : Int) (i : Nat) : ((hmks p)[g.toNat]?.getD 0).testBit i = (decide (i < p.ls.length) && meets (lgA p i).fb (grA p.n g)) := by
  unfold hmks grA
  rw [List.getElem?_map]
  cases e : (grps p.n)[g.toNat]? with
  | none => simp [meets_nil]
  | some G => simp only [Option.map_some, Option.getD_some]; exact mkTo_bit _ _ _ _
/-- Bit i of the union: does light i meet one of the groups? -/
theorem uni_hit (p : Pln) (gs : List Int) (i : Nat) : (uni (hmks p) gs).testBit i = (decide (i < p.ls.length) && hitL p gs (lgA p i)) := by
  rw [uni_bit, hitL_any]
  induction gs with
  | nil => simp
  | cons g gs ih => rw [List.any_cons, List.any_cons, ih, hmks_bit, Bool.and_or_distrib_left]
/-! ### Sets of numbers -/
theorem setOk_bd {xs : List Int} {m : Int} (h : setOk xs m = true) {i : Nat} (hi : i < xs.length) : 0 ≤ xs[i]?.getD 0 ∧ xs[i]?.getD 0 < m := by
  unfold setOk at h
  rw [List.all_eq_true] at h
  have := h i (List.mem_range.2 hi)
  unfold seAt at this
  simp only [Bool.and_eq_true] at this
  have := inB_true this.1
  omega
theorem setOk_up {xs : List Int} {m : Int} (h : setOk xs m = true) {i : Nat} (hi : i + 1 < xs.length) : xs[i]?.getD 0 < xs[i + 1]?.getD 0 := by
  unfold setOk at h
  rw [List.all_eq_true] at h
  have := h (i + 1) (List.mem_range.2 hi)
  unfold seAt at this
  simp only [Bool.and_eq_true, Bool.not_eq_true', Bool.and_eq_false_iff, decide_eq_false_iff_not, Nat.add_sub_cancel] at this
  rcases this.2 with e | e
  · omega
  · omega
theorem setOk_ge {xs : List Int} {m : Int} (h : setOk xs m = true) : ∀ i : Nat, i < xs.length → (i : Int) ≤ xs[i]?.getD 0 := fun i => by
  induction i with
  | zero => intro hi; have := setOk_bd h hi; omega
  | succ i ih => intro hi; have h1 := ih (by omega); have h2 := setOk_up h hi; omega
theorem setOk_len {xs : List Int} {m : Nat} (h : setOk xs m = true) : xs.length ≤ m := by
  rcases Nat.eq_zero_or_pos xs.length with e | e
  · omega
  · have h1 := setOk_ge h (xs.length - 1) (by omega)
    have h2 := setOk_bd h (i := xs.length - 1) (by omega)
    omega
/-- Is the list one of groups of a valid plan? -/
def gsetOk (p : Pln) (gs : List Int) : Bool := plnOk p && setOk gs (grps p.n).length
theorem gsetOk_parts {p : Pln} {gs : List Int} (h : gsetOk p gs = true) : plnOk p = true ∧ setOk gs (grps p.n).length = true := by
  unfold gsetOk at h; simpa using h
theorem plnOk_sz {p : Pln} (h : plnOk p = true) : netOk p.n = true ∧ p.ls.length ≤ 12 ∧ p.n.fs.length ≤ 14 ∧ (grps p.n).length ≤ 23 := by
  unfold plnOk at h
  simp only [Bool.and_eq_true, decide_eq_true_eq] at h
  have h1 := netOk_yes h.1
  have h2 := grps_len p.n
  exact ⟨h.1, h.2.1, h1.2.2.1, by omega⟩
end Go.Proofs.YtmkkdenhjfjmgaaGreat
namespace Go.Proofs.YtmkkdenhjfjmgaaGreat
open Go.RowKit

theorem plnOk_lt {p : Pln} (h : plnOk p = true) {j : Nat} (hj : j < p.ls.length) : ltOk p j = true := by
  unfold plnOk at h
  simp only [Bool.and_eq_true] at h
  exact List.all_eq_true.1 h.2.2 j (List.mem_range.2 hj)
theorem plnOk_id1 {p : Pln} (h : plnOk p = true) {j : Nat} (hj : j + 1 < p.ls.length) : (lgA p j).id < (lgA p (j + 1)).id := by
  have := plnOk_lt h hj
  unfold ltOk at this
  simp only [Bool.and_eq_true, Bool.not_eq_true', Bool.and_eq_false_iff, decide_eq_false_iff_not, Nat.add_sub_cancel] at this
  rcases this.2.1 with e | e <;> omega
theorem plnOk_id {p : Pln} (h : plnOk p = true) {i j : Nat} (hij : i < j) (hj : j < p.ls.length) : (lgA p i).id < (lgA p j).id := by
  induction j with
  | zero => omega
  | succ j ih =>
    have h1 := plnOk_id1 h hj
    by_cases e : i = j
    · subst e; exact h1
    · have := ih (by omega) (by omega); omega
theorem plnOk_idrng {p : Pln} (h : plnOk p = true) {j : Nat} (hj : j < p.ls.length) : 1 ≤ (lgA p j).id ∧ (lgA p j).id ≤ 999 := by
  have := plnOk_lt h hj
  unfold ltOk lgtOk at this
  simp only [Bool.and_eq_true] at this
  exact inB_true this.1.1.2
theorem plnOk_inj {p : Pln} (h : plnOk p = true) {i j : Nat} (hi : i < p.ls.length) (hj : j < p.ls.length) (e : (lgA p i).id = (lgA p j).id) : i = j := by
  rcases Nat.lt_trichotomy i j with q | q | q
  · have := plnOk_id h q hj; omega
  · exact q
  · have := plnOk_id h q hi; omega
theorem hts_has {p : Pln} {gs : List Int} (h : plnOk p = true) {k : Nat} (hk : k < p.ls.length) : (hts p gs).contains (lgA p k).id = hitL p gs (lgA p k) := by
  rw [Bool.eq_iff_iff, List.contains_iff_mem]
  unfold hts hitTo
  rw [List.take_length, List.mem_map]
  constructor
  · rintro ⟨x, hx, e⟩
    obtain ⟨h1, h2⟩ := List.mem_filter.1 hx
    obtain ⟨i, hi, rfl⟩ := List.mem_iff_getElem.1 h1
    have e0 : lgA p i = p.ls[i] := by unfold lgA; rw [List.getElem?_eq_getElem hi]; rfl
    rw [← e0] at e h2
    have := plnOk_inj h hi hk e
    subst this
    exact h2
  · intro h1
    refine ⟨lgA p k, List.mem_filter.2 ⟨?_, h1⟩, rfl⟩
    unfold lgA
    rw [List.getElem?_eq_getElem hk]
    exact List.getElem_mem hk
end Go.Proofs.YtmkkdenhjfjmgaaGreat
namespace Go.Proofs.YtmkkdenhjfjmgaaGreat
open Go.RowKit Go.Sort
set_option maxRecDepth 100000

theorem blk_alt (f c : Int) : blkOk f c = (inB f 0 23 && inB c 1 (24 - f)) := by
  unfold blkOk inB
  rw [Bool.eq_iff_iff]
  simp only [Bool.and_eq_true, decide_eq_true_eq]
  omega
theorem IsValidBlock_any (f c : Int) (w : World) :
    Calls Tryz.prog 179 #[.agg #[.int .i64 f, .int .i64 c]] w fun e w' => e = .returned (.bool (blkOk f c)) ∧ Below w.heap.size w w' := by
  obtain ⟨bx, bc, -, -⟩ := box_facts w #[.int .i64 f, .int .i64 c] 92
  have q0 := bc 0 _ rfl
  have q1 := bc 1 _ rfl
  have HBX := Lib.hid bx
  have HV := Lib.hid (show blkOk f c = (decide (0 ≤ f) && (inB c 1 24 && decide (f ≤ 24 - c))) from rfl)
  clear bc bx
  generalize blkOk f c = q at *
  cases h0 : decide (0 ≤ f)
  · rw [h0] at HV
    go_enter Tryz.func179, Tryz.ntmps179
    go_wp2
    go_ret
    exact ⟨by rw [HV.out]; rfl, HBX.out⟩
  rw [h0] at HV
  cases h1 : inB c 1 24
  · rw [h1] at HV
    go_enter Tryz.func179, Tryz.ntmps179
    go_wp2_with (go_at_call 83; refine (within_any _ _ _ _).mono ?_; rintro e w' ⟨rfl, rfl⟩; rw [h1])
    go_ret
    exact ⟨by rw [HV.out]; rfl, HBX.out⟩
  rw [h1] at HV
  have hc := inB_true h1
  obtain ⟨d, hd⟩ : ∃ d, 24 - c = d := ⟨_, rfl⟩
  rw [hd] at HV
  have f1 : IntKind.i64.wrap (24 - c) = d := by rw [← hd]; exact IntWalk.i64_in _ (by omega)
  have f2 : wrap64 (24 - c) = d := by rw [← hd]; exact IntWalk.wrap64_in _ (by omega)
  clear hd hc
  cases h2 : decide (f ≤ d)
  all_goals
    rw [h2] at HV
    go_enter Tryz.func179, Tryz.ntmps179
    go_wp2_with (go_at_call 83; refine (within_any _ _ _ _).mono ?_; rintro e w' ⟨rfl, rfl⟩; rw [h1])
    go_ret
    exact ⟨by rw [HV.out]; rfl, HBX.out⟩
theorem l8Good_any (f c : Int) (w : World) :
    Calls Tryz.prog 188 #[.agg #[.int .i64 f, .int .i64 c]] w fun e w' => e = .returned (.bool (blkOk f c)) ∧ Below w.heap.size w w' := by
  obtain ⟨bx, bc, -, -⟩ := box_facts w #[.int .i64 f, .int .i64 c] 92
  have q0 := bc 0 _ rfl
  have q1 := bc 1 _ rfl
  have HBX := Lib.hid bx
  have HV := Lib.hid (blk_alt f c)
  clear bc bx
  generalize blkOk f c = q at *
  cases h1 : inB f 0 23
  · rw [h1] at HV
    go_enter Tryz.func188, Tryz.ntmps188
    go_wp2_with (go_at_call 86; refine (l1In_any _ _ _ _).mono ?_; rintro e w' ⟨rfl, rfl⟩; rw [h1])
    go_ret
    exact ⟨by rw [HV.out]; rfl, HBX.out⟩
  rw [h1] at HV
  have hf := inB_true h1
  obtain ⟨d, hd⟩ : ∃ d, 24 - f = d := ⟨_, rfl⟩
  rw [hd] at HV
  have f1 : IntKind.i64.wrap (24 - f) = d := by rw [← hd]; exact IntWalk.i64_in _ (by omega)
  have f2 : wrap64 (24 - f) = d := by rw [← hd]; exact IntWalk.wrap64_in _ (by omega)
  clear hd hf
  cases h2 : inB c 1 d
  all_goals
    rw [h2] at HV
    go_enter Tryz.func188, Tryz.ntmps188
    go_wp2_with (go_at_call 86; refine (l1In_any _ _ _ _).mono ?_; rintro e w' ⟨rfl, rfl⟩; first | rw [h1] | rw [h2])
    go_ret
    exact ⟨by rw [HV.out]; rfl, HBX.out⟩
end Go.Proofs.YtmkkdenhjfjmgaaGreat
namespace Go.Proofs.YtmkkdenhjfjmgaaGreat
open Go.RowKit Go.Sort
set_option maxRecDepth 100000

theorem mskN_bit (f c i : Nat) : (mskN f c).testBit i = (decide (f ≤ i) && decide (i < f + c)) := by
  unfold mskN
  rw [Nat.testBit_mul_two_pow, Nat.testBit_two_pow_sub_one]
  by_cases h : f ≤ i
  · simp only [h, decide_true, Bool.true_and, ge_iff_le]
    rw [decide_eq_decide]; omega
  · simp [h]
theorem mskN_meet (f c g d : Nat) (hc : 0 < c) (hd : 0 < d) : (mskN f c &&& mskN g d = 0) ↔ ¬ (f < g + d ∧ g < f + c) := by
  constructor
  · intro h ⟨h1, h2⟩
    have := congrArg (fun x => x.testBit (max f g)) h
    simp only [Nat.testBit_and, mskN_bit, Nat.zero_testBit, Bool.and_eq_false_iff, decide_eq_false_iff_not] at this
    omega
  · intro h
    apply Nat.eq_of_testBit_eq
    intro i
    simp only [Nat.testBit_and, mskN_bit, Nat.zero_testBit, Bool.and_eq_false_iff, decide_eq_false_iff_not]
    omega
theorem mskN_lt (f c : Nat) (h : f + c ≤ 24) : mskN f c < 16777216 := by
  unfold mskN
  have h1 : 2 ^ c * 2 ^ f ≤ 2 ^ 24 := by rw [← Nat.pow_add]; exact Nat.pow_le_pow_right (by omega) (by omega)
  have h2 : (2 ^ c - 1) * 2 ^ f + 2 ^ f = 2 ^ c * 2 ^ f := by
    have : 0 < 2 ^ c := Nat.two_pow_pos c
    rw [Nat.sub_mul, Nat.one_mul]
    exact Nat.sub_add_cancel (Nat.le_mul_of_pos_left _ this)
  have h3 : 0 < 2 ^ f := Nat.two_pow_pos f
  omega
theorem msk_val {f c : Nat} (h : f + c ≤ 24) : wrap64 (wrap64 (wrap64 ((2 : Int) ^ c) - 1) * (2 : Int) ^ f) = (mskN f c : Int) := by
  have hm := mskN_lt f c h
  have hc : 2 ^ c ≤ 2 ^ 24 := Nat.pow_le_pow_right (by omega) (by omega)
  have hc0 : 0 < 2 ^ c := Nat.two_pow_pos c
  have e1 : (2 : Int) ^ c = ((2 ^ c : Nat) : Int) := by simp
  have e2 : (2 : Int) ^ f = ((2 ^ f : Nat) : Int) := by simp
  rw [e1, e2]
  have w1 : wrap64 ((2 ^ c : Nat) : Int) = ((2 ^ c : Nat) : Int) := IntWalk.wrap64_in _ (by omega)
  have e3 : (((2 ^ c : Nat) : Int) - 1) = ((2 ^ c - 1 : Nat) : Int) := by omega
  have w2 : wrap64 ((2 ^ c - 1 : Nat) : Int) = ((2 ^ c - 1 : Nat) : Int) := IntWalk.wrap64_in _ (by omega)
  rw [w1, e3, w2, ← Int.natCast_mul]
  show wrap64 ((mskN f c : Nat) : Int) = _
  exact IntWalk.wrap64_in _ (by omega)
theorem maskOf_any (f c : Nat) (w : World) (h : f + c ≤ 24) :
    Calls Tryz.prog 181 #[.agg #[.int .i64 f, .int .i64 c]] w fun e w' => e = .returned (.int .i64 (mskN f c)) ∧ Below w.heap.size w w' := by
  obtain ⟨bx, bc, -, -⟩ := box_facts w #[.int .i64 f, .int .i64 c] 92
  have q0 := bc 0 _ rfl
  have q1 := bc 1 _ rfl
  have HBX := Lib.hid bx
  have HVV := Lib.hid (msk_val h)
  clear bc bx
  go_enter Tryz.func181, Tryz.ntmps181
  go_wp2
  go_quiet (fail)
  go_wp2
  go_ret
  exact ⟨by rw [← HVV.out]; rfl, ⟨HBX.out.os, HBX.out.tape, HBX.out.output, HBX.out.size, HBX.out.block⟩⟩
theorem l8Bits_any (f c : Nat) (w : World) (h : f + c ≤ 24) :
    Calls Tryz.prog 189 #[.agg #[.int .i64 f, .int .i64 c]] w fun e w' => e = .returned (.int .i64 (mskN f c)) ∧ Below w.heap.size w w' := by
  obtain ⟨bx, bc, -, -⟩ := box_facts w #[.int .i64 f, .int .i64 c] 92
  have q0 := bc 0 _ rfl
  have q1 := bc 1 _ rfl
  have HBX := Lib.hid bx
  have HVV := Lib.hid (msk_val h)
  clear bc bx
  go_enter Tryz.func189, Tryz.ntmps189
  go_wp2
  go_ret
  exact ⟨by rw [← HVV.out]; rfl, HBX.out⟩
theorem bits_and {a b : Nat} (ha : a < 16777216) (hb : b < 16777216) : bits .and .i64 (a : Int) (b : Int) = ((a &&& b : Nat) : Int) := by
  have hab : a &&& b ≤ a := Nat.and_le_left
  have e : (BitVec.ofInt 64 (a : Int) &&& BitVec.ofInt 64 (b : Int)).toNat = a &&& b := by
    rw [BitVec.toNat_and, BitVec.ofInt_natCast, BitVec.ofInt_natCast, BitVec.toNat_ofNat, BitVec.toNat_ofNat, Nat.mod_eq_of_lt (by omega), Nat.mod_eq_of_lt (by omega)]
  unfold bits
  show IntKind.i64.wrap (((BitVec.ofInt 64 (a : Int) &&& BitVec.ofInt 64 (b : Int)).toNat : Nat) : Int) = _
  rw [e, IntWalk.i64_in _ (by omega)]
theorem bits_meet {f c g d : Nat} (hc : 0 < c) (hd : 0 < d) (h1 : f + c ≤ 24) (h2 : g + d ≤ 24) : (bits .and .i64 (mskN f c : Int) (mskN g d : Int) != 0) = decide ((f : Int) < g + d ∧ (g : Int) < f + c) := by
  rw [bits_and (mskN_lt f c h1) (mskN_lt g d h2), Bool.eq_iff_iff, bne_iff_ne, decide_eq_true_eq]
  have := mskN_meet f c g d hc hd
  omega
end Go.Proofs.YtmkkdenhjfjmgaaGreat
namespace Go.Proofs.YtmkkdenhjfjmgaaGreat
open Go.RowKit Go.Sort
set_option maxRecDepth 100000

theorem bits_or {a b : Nat} (ha : a < 16777216) (hb : b < 16777216) : bits .or .i64 (a : Int) (b : Int) = ((a ||| b : Nat) : Int) := by
  have hab : a ||| b < 2 ^ 24 := or_lt (by omega) (by omega)
  have e : (BitVec.ofInt 64 (a : Int) ||| BitVec.ofInt 64 (b : Int)).toNat = a ||| b := by
    rw [BitVec.toNat_or, BitVec.ofInt_natCast, BitVec.ofInt_natCast, BitVec.toNat_ofNat, BitVec.toNat_ofNat, Nat.mod_eq_of_lt (by omega), Nat.mod_eq_of_lt (by omega)]
  unfold bits
  show IntKind.i64.wrap (((BitVec.ofInt 64 (a : Int) ||| BitVec.ofInt 64 (b : Int)).toNat : Nat) : Int) = _
  rw [e, IntWalk.i64_in _ (by omega)]
theorem shl_one {k : Nat} (hk : k < 24) : wrap64 ((2 : Int) ^ k) = ((2 ^ k : Nat) : Int) := by
  have : (2 : Nat) ^ k < 2 ^ 24 := Nat.pow_lt_pow_right (by omega) hk
  have e : (2 : Int) ^ k = ((2 ^ k : Nat) : Int) := by simp
  rw [e]
  generalize (2 : Nat) ^ k = P at *
  exact IntWalk.wrap64_in _ (by omega)
theorem pow_lt24 {k : Nat} (hk : k < 24) : 2 ^ k < 16777216 := Nat.lt_of_lt_of_le (Nat.pow_lt_pow_right (by omega) hk) (Nat.le_refl (2 ^ 24))
theorem le12 {a L : Nat} (h : a < 2 ^ L) (hL : L ≤ 12) : a < 16777216 := Nat.lt_of_lt_of_le (Nat.lt_of_lt_of_le h (Nat.pow_le_pow_right (by omega) hL)) (by omega)

set_option maxHeartbeats 1600000 in
theorem l25Union_any (va vb : Value) (ms : List Nat) (gs : List Int) (w : World) (ha : Rd w va (nats ms)) (hb : Rd w vb gs) (hms : ∀ m ∈ ms, m < 2 ^ 12)
    (hgs : ∀ i : Nat, i < gs.length → 0 ≤ gs[i]?.getD 0 ∧ gs[i]?.getD 0 < ms.length) :
    Calls Tryz.prog 60 #[va, vb] w fun e w' => e = .returned (.int .i64 (uni ms gs)) ∧ w = w' := by
  obtain ⟨a1, c1, n1, HN1, rfl, _, hn1, ha1⟩ := ha.opn
  obtain ⟨a2, c2, n2, HN2, rfl, _, hn2, ha2⟩ := hb.opn
  have HA1 := Lib.hid ha1
  have HA2 := Lib.hid ha2
  have HGS := Lib.hid hgs
  have HU := Lib.hid (fun k hk => @uni_take ms gs k hk)
  have HL := Lib.hid (fun k => show uni ms (gs.take k) < 16777216 from le12 (uni_lt hms) (Nat.le_refl _))
  have HM := Lib.hid (fun i => show (ms[i]?.getD 0) < 16777216 from by
    by_cases h : i < ms.length
    · rw [List.getElem?_eq_getElem h]; exact le12 (hms _ (List.getElem_mem h)) (Nat.le_refl _)
    · rw [List.getElem?_eq_none (by omega)]; show (0 : Nat) < _; omega)
  have HNA := Lib.hid (nats_at ms)
  have HT := Lib.hid (show uni ms (gs.take n2) = uni ms gs by rw [List.take_of_length_le (Nat.le_of_eq HN2.out)])
  have hml : ms.length = n1 := by have := HN1.out; rwa [nats_len] at this
  rw [hml, HN2.out] at HGS
  rw [HN2.out] at HU
  clear hml ha hb ha1 ha2 hgs hms
  go_enter Tryz.func60, Tryz.ntmps60
  go_wp2
  go_loopw [5, 6] (fun s5 i wr => ∃ k : Nat, k ≤ n2 ∧ i = .int .i64 k ∧ s5 = .int .i64 (uni ms (gs.take k)) ∧ wr = w) (fun _ i _ => n2 - (intOf i).toNat)
  case atStart => exact ⟨0, Nat.zero_le _, rfl, rfl, rfl⟩
  case round =>
    obtain ⟨k, hk, rfl, rfl, rfl⟩ := hrel
    by_cases hlt : k < n2
    · have hltI : (k : Int) < (n2 : Int) := by omega
      obtain ⟨b, off, rfl, hbs, hcs⟩ := HA2.out (by omega)
      have e0 := hcs k hlt
      have hg := HGS.out k hlt
      have HUK := Lib.hid (HU.out k hlt)
      have HLK := Lib.hid (HL.out k)
      clear hcs
      generalize gs[k]?.getD 0 = g at *
      obtain ⟨gn, rfl⟩ : ∃ gn : Nat, g = (gn : Int) := ⟨g.toNat, by omega⟩
      have hgn : gn < n1 := by omega
      have hgnI : (gn : Int) < (n1 : Int) := by omega
      obtain ⟨b1, off1, rfl, hbs1, hcs1⟩ := HA1.out (by omega)
      have e1 := hcs1 gn hgn
      rw [HNA.out] at e1
      have HMG := Lib.hid (HM.out gn)
      rw [show ((gn : Int)).toNat = gn from rfl] at HUK
      clear hcs1 hg
      generalize ms[gn]?.getD 0 = mg at *
      generalize uni ms (gs.take k) = un at *
      have hor := bits_or HLK.out HMG.out
      go_wp2
      go_roundw
      case rel => exact ⟨k + 1, hlt, by go_num, by rw [HUK.out], trivial⟩
      case measure => simp [intOf]; omega
    · obtain rfl : n2 = k := by omega
      go_wp2
      go_ret
      exact ⟨by rw [← HT.out]; rfl, rfl⟩
end Go.Proofs.YtmkkdenhjfjmgaaGreat
namespace Go.Proofs.YtmkkdenhjfjmgaaGreat
open Go.RowKit
set_option maxRecDepth 100000

/-- The first place of a number, or -1. -/
def plI (xs : List Int) (x : Int) : Int := match xs.findIdx? (fun s => s == x) with | some i => (i : Int) | none => -1
theorem plI_none {xs : List Int} {x : Int} (h : xs.any (fun s => s == x) = false) : plI xs x = -1 := by
  unfold plI
  rw [List.findIdx?_eq_none_iff.2 fun s hs => by
    have := (List.any_eq_false.1 h) s hs
    simpa using this]
theorem plI_some {xs : List Int} {x : Int} {k : Nat} (hk : k < xs.length) (h : (xs.take k).any (fun s => s == x) = false) (e : xs[k]?.getD 0 = x) : plI xs x = (k : Int) := by
  rw [List.getElem?_eq_getElem hk] at e
  unfold plI
  rw [List.findIdx?_eq_some_iff_getElem.2 ⟨hk, by simpa using e, fun j hj => by
    have := (List.any_eq_false.1 h) (xs[j]'(by omega)) (List.mem_take_iff_getElem.2 ⟨j, by omega, rfl⟩)
    simpa using this⟩]
theorem anyI_more {xs : List Int} {x : Int} {k : Nat} (hk : k < xs.length) (h : (xs.take k).any (fun s => s == x) = false) (e : xs[k]?.getD 0 ≠ x) : (xs.take (k + 1)).any (fun s => s == x) = false := by
  rw [List.getElem?_eq_getElem hk] at e
  rw [List.take_add_one, List.any_append, h, List.getElem?_eq_getElem hk]
  simpa using e
theorem plI_geq (xs : List Int) (x : Int) : decide (0 ≤ plI xs x) = xs.contains x := by
  cases h : xs.findIdx? (fun s => s == x) with
  | none =>
    have h0 := h
    rw [List.findIdx?_eq_none_iff] at h
    unfold plI
    rw [h0]
    have : xs.contains x = false := by
      rw [← Bool.not_eq_true, List.contains_iff_mem]
      intro hm
      have := h x hm
      simp at this
    rw [this]; rfl
  | some k =>
    have h0 := h
    rw [List.findIdx?_eq_some_iff_getElem] at h
    obtain ⟨hk, e, _⟩ := h
    unfold plI
    rw [h0]
    have : xs.contains x = true := by rw [List.contains_iff_mem]; have := List.getElem_mem hk; rw [eq_of_beq e] at this; exact this
    rw [this]; simp
theorem hasI_yes {xs : List Int} {x : Int} {k : Nat} (hk : k < xs.length) (e : xs[k]?.getD 0 = x) : xs.contains x = true := by
  rw [List.getElem?_eq_getElem hk] at e
  rw [List.contains_iff_mem, ← show xs[k] = x from e]; exact List.getElem_mem hk
theorem hasI_no {xs : List Int} {x : Int} (h : xs.any (fun s => s == x) = false) : xs.contains x = false := by
  rw [← Bool.not_eq_true, List.contains_iff_mem]
  intro hm
  have := (List.any_eq_false.1 h) x hm
  simp at this
set_option maxHeartbeats 1600000 in
theorem indexI_any (v : Value) (xs : List Int) (x : Int) (w : World) (h : Rd w v xs) :
    Calls Tryz.prog 112 #[v, .int .i64 x] w fun e w' => e = .returned (.int .i64 (plI xs x)) ∧ w = w' := by
  obtain ⟨a, cap, n, HN, rfl, _, hnl, ha⟩ := h.opn
  have HA := Lib.hid ha
  have HP := Lib.hid (fun k (hk : k < xs.length) => @plI_some xs x k hk)
  have HM := Lib.hid (fun k (hk : k < xs.length) => @anyI_more xs x k hk)
  have HO := Lib.hid (@plI_none xs x)
  clear ha h
  generalize plI xs x = r at *
  go_enter Tryz.func112, Tryz.ntmps112
  go_wp2
  go_loop [5, 8] (fun _ i => ∃ k : Nat, k ≤ n ∧ i = .int .i64 k ∧ Hid ((xs.take k).any (fun s => s == x) = false)) (fun _ i => n - (intOf i).toNat)
  case atStart => exact ⟨0, Nat.zero_le _, rfl, by simp [Hid]⟩
  case round =>
    obtain ⟨k, hk, rfl, HT⟩ := hrel
    by_cases hlt : k < n
    · have hltI : (k : Int) < (n : Int) := by omega
      have hkx : k < xs.length := by rw [HN.out]; exact hlt
      obtain ⟨b, off, rfl, hbs, hcs⟩ := HA.out (by omega)
      have hc0 := hcs k hlt
      have HP1 := Lib.hid (HP.out k hkx HT.out)
      have HM1 := Lib.hid (HM.out k hkx HT.out)
      clear hcs hkx
      generalize xs[k]?.getD 0 = y at *
      by_cases he : y = x
      · have HE := Lib.hid (HP1.out he)
        have hb1 : (x == y) = true := by simp [he]
        have hb2 : (y == x) = true := by simp [he]
        clear he
        go_wp2
        go_ret
        exact ⟨by rw [HE.out]; rfl, rfl⟩
      · have HE := Lib.hid (HM1.out he)
        have hb1 : (x == y) = false := by simp; exact fun e => he e.symm
        have hb2 : (y == x) = false := by simp [he]
        clear he
        go_wp2
        go_round
        case rel => exact ⟨k + 1, by omega, by go_num, HE.out⟩
        case measure => simp [intOf]; omega
    · obtain rfl : k = n := by omega
      have hall := HT.out
      rw [← HN.out, List.take_length] at hall
      have HE := Lib.hid (HO.out hall)
      clear hall
      go_wp2
      go_ret
      exact ⟨by rw [HE.out]; rfl, rfl⟩
theorem containsI_any (v : Value) (xs : List Int) (x : Int) (w : World) (h : Rd w v xs) :
    Calls Tryz.prog 65 #[v, .int .i64 x] w fun e w' => e = .returned (.bool (xs.contains x)) ∧ w = w' := by
  have HI := Lib.hid (indexI_any v xs x w h)
  have HG := Lib.hid (plI_geq xs x)
  generalize plI xs x = r at *
  generalize xs.contains x = q at *
  obtain ⟨a, cap, n, -, rfl, -, -, -⟩ := h.opn
  clear h
  go_enter Tryz.func65, Tryz.ntmps65
  go_wp2_with (go_at_call 112; refine (HI.out).mono ?_; rintro e w' ⟨rfl, rfl⟩)
  go_ret
  exact ⟨by rw [← HG.out]; rfl, rfl⟩
set_option maxHeartbeats 1600000 in
theorem l1Has_any (v : Value) (xs : List Int) (x : Int) (w : World) (h : Rd w v xs) :
    Calls Tryz.prog 97 #[v, .int .i64 x] w fun e w' => e = .returned (.bool (xs.contains x)) ∧ w = w' := by
  obtain ⟨a, cap, n, HN, rfl, _, hnl, ha⟩ := h.opn
  have HA := Lib.hid ha
  have HP := Lib.hid (fun k (hk : k < xs.length) => @hasI_yes xs x k hk)
  have HM := Lib.hid (fun k (hk : k < xs.length) => @anyI_more xs x k hk)
  have HO := Lib.hid (@hasI_no xs x)
  clear ha h
  generalize xs.contains x = r at *
  go_enter Tryz.func97, Tryz.ntmps97
  go_wp2
  go_loop [5] (fun i => ∃ k : Nat, k ≤ n ∧ i = .int .i64 k ∧ Hid ((xs.take k).any (fun s => s == x) = false)) (fun i => n - (intOf i).toNat)
  case atStart => exact ⟨0, Nat.zero_le _, rfl, by simp [Hid]⟩
  case round =>
    obtain ⟨k, hk, rfl, HT⟩ := hrel
    by_cases hlt : k < n
    · have hltI : (k : Int) < (n : Int) := by omega
      have hkx : k < xs.length := by rw [HN.out]; exact hlt
      obtain ⟨b, off, rfl, hbs, hcs⟩ := HA.out (by omega)
      have hc0 := hcs k hlt
      have HP1 := Lib.hid (HP.out k hkx)
      have HM1 := Lib.hid (HM.out k hkx HT.out)
      clear hcs hkx
      generalize xs[k]?.getD 0 = y at *
      by_cases he : y = x
      · have HE := Lib.hid (HP1.out he)
        have hb2 : (y == x) = true := by simp [he]
        clear he
        go_wp2
        go_ret
        exact ⟨by rw [HE.out]; rfl, rfl⟩
      · have HE := Lib.hid (HM1.out he)
        have hb2 : (y == x) = false := by simp [he]
        clear he
        go_wp2
        go_round
        case rel => exact ⟨k + 1, by omega, by go_num, HE.out⟩
        case measure => simp [intOf]; omega
    · obtain rfl : k = n := by omega
      have hall := HT.out
      rw [← HN.out, List.take_length] at hall
      have HE := Lib.hid (HO.out hall)
      clear hall
      go_wp2
      go_ret
      exact ⟨by rw [HE.out]; rfl, rfl⟩
end Go.Proofs.YtmkkdenhjfjmgaaGreat
namespace Go.Proofs.YtmkkdenhjfjmgaaGreat
open Go.RowKit Go.Sort
set_option maxRecDepth 100000

theorem othE_a {f : Fib} {t : Int} (h : t = f.a) : othE f t = f.b := by unfold othE; rw [if_pos h]
theorem othE_b {f : Fib} {t : Int} (h : ¬ t = f.a) (h2 : t = f.b) : othE f t = f.a := by unfold othE; rw [if_neg h, if_pos h2]
theorem othE_no {f : Fib} {t : Int} (h : ¬ t = f.a) (h2 : ¬ t = f.b) : othE f t = -1 := by unfold othE; rw [if_neg h, if_neg h2]
theorem otherEnd_any (f : Fib) (t : Int) (w : World) :
    Calls Tryz.prog 207 #[fibV f, .int .i64 t] w fun e w' => e = .returned (.int .i64 (othE f t)) ∧ Below w.heap.size w w' := by
  unfold fibV
  have HA := Lib.hid (@othE_a f t)
  have HB := Lib.hid (@othE_b f t)
  have HN := Lib.hid (@othE_no f t)
  obtain ⟨bx, bc, -, -⟩ := box_facts w #[.int .i64 f.a, .int .i64 f.b, .int .i64 f.l, .int .i64 f.r] 148
  have q0 := bc 0 _ rfl
  have q1 := bc 1 _ rfl
  have HBX := Lib.hid bx
  clear bc bx
  generalize othE f t = o at *
  by_cases h1 : t = f.a
  · have HE := Lib.hid (HA.out h1)
    have b1 : (t == f.a) = true := by simp [h1]
    have b2 : decide (t = f.a) = true := by simp [h1]
    clear h1
    go_enter Tryz.func207, Tryz.ntmps207
    go_wp2
    go_ret
    exact ⟨by rw [HE.out]; rfl, HBX.out⟩
  have b1 : (t == f.a) = false := by simp [h1]
  have b2 : decide (t = f.a) = false := by simp [h1]
  by_cases h2 : t = f.b
  · have HE := Lib.hid (HB.out h1 h2)
    have b3 : (t == f.b) = true := by simp [h2]
    have b4 : decide (t = f.b) = true := by simp [h2]
    clear h1 h2
    go_enter Tryz.func207, Tryz.ntmps207
    go_wp2
    go_ret
    exact ⟨by rw [HE.out]; rfl, HBX.out⟩
  have b3 : (t == f.b) = false := by simp [h2]
  have b4 : decide (t = f.b) = false := by simp [h2]
  have HE := Lib.hid (HN.out h1 h2)
  clear h1 h2
  go_enter Tryz.func207, Tryz.ntmps207
  go_wp2
  go_ret
  exact ⟨by rw [HE.out]; rfl, HBX.out⟩
theorem l2Other_any (u1 u2 : Value) (n : Net) (k : Nat) (t : Int) (w : World) (h : Rdt w (flt 4 fibE n.fs) u2) (h1 : ∃ a m c, u1 = .slice a m c) (hk : k < n.fs.length) :
    Calls Tryz.prog 194 #[.agg #[u1, u2], .int .i64 k, .int .i64 t] w fun e w' => e = .returned (.int .i64 (othE (fbA n k) t)) ∧ Below w.heap.size w w' := by
  obtain ⟨a1, m1, c1, rfl⟩ := h1
  obtain ⟨a2, m2, c2, rfl, HN2, hc2, hm2, ha2⟩ := flt_opn (m := 4) (enc := fibE) (fun _ => rfl) (by omega) nilB h
  have hk2 : k < m2 := by have := HN2.out; omega
  obtain ⟨b, off, rfl, hbs, hcs⟩ := ha2 (by omega)
  obtain ⟨bx, bc, -, -⟩ := box_facts w #[.slice a1 m1 c1, .slice (some ⟨b, off, none⟩) m2 c2] 35
  have q0 := bc 0 _ rfl
  have q1 := bc 1 _ rfl
  have HBX := Lib.hid bx
  have e0 := (bx.cell (p := ⟨b, off + k * 4 + 0, none⟩) hbs).trans (hcs k hk2 0 _ rfl)
  have e1 := (bx.cell (p := ⟨b, off + k * 4 + 1, none⟩) hbs).trans (hcs k hk2 1 _ rfl)
  have e2 := (bx.cell (p := ⟨b, off + k * 4 + 2, none⟩) hbs).trans (hcs k hk2 2 _ rfl)
  have e3 := (bx.cell (p := ⟨b, off + k * 4 + 3, none⟩) hbs).trans (hcs k hk2 3 _ rfl)
  simp only [Nat.add_zero] at e0
  have hkI : (k : Int) < (m2 : Int) := by omega
  unfold fbA
  clear hcs bc bx ha2 h hk
  generalize n.fs[k]?.getD nilB = f at *
  have HA := Lib.hid (@othE_a f t)
  have HB := Lib.hid (@othE_b f t)
  have HN := Lib.hid (@othE_no f t)
  have HBY := Lib.hid (fun (w1 : World) => (box_facts w1 #[.int .i64 f.a, .int .i64 f.b, .int .i64 f.l, .int .i64 f.r] 148).1)
  generalize othE f t = o at *
  go_enter Tryz.func194, Tryz.ntmps194
  by_cases h1 : t = f.a
  · have HE := Lib.hid (HA.out h1)
    have b1 : (t == f.a) = true := by simp [h1]
    have b2 : decide (t = f.a) = true := by simp [h1]
    clear h1
    go_wp2
    go_ret
    exact ⟨by rw [HE.out]; rfl, HBX.out.trans ((HBY.out _).mono HBX.out.size)⟩
  have b1 : (t == f.a) = false := by simp [h1]
  have b2 : decide (t = f.a) = false := by simp [h1]
  by_cases h2 : t = f.b
  · have HE := Lib.hid (HB.out h1 h2)
    have b3 : (t == f.b) = true := by simp [h2]
    have b4 : decide (t = f.b) = true := by simp [h2]
    clear h1 h2
    go_wp2
    go_ret
    exact ⟨by rw [HE.out]; rfl, HBX.out.trans ((HBY.out _).mono HBX.out.size)⟩
  have b3 : (t == f.b) = false := by simp [h2]
  have b4 : decide (t = f.b) = false := by simp [h2]
  have HE := Lib.hid (HN.out h1 h2)
  clear h1 h2
  go_wp2
  go_ret
  exact ⟨by rw [HE.out]; rfl, HBX.out.trans ((HBY.out _).mono HBX.out.size)⟩
end Go.Proofs.YtmkkdenhjfjmgaaGreat
namespace Go.Proofs.YtmkkdenhjfjmgaaGreat
open Go.RowKit Go.Sort
set_option maxRecDepth 100000
theorem Tryz.infoI : (Tryz.prog.info? 3).map (fun i => (i.zero, i.size, i.bytes)) = some (some (.int .i64 0), 1, 8) := by kernel_rfl
/-- What the walk of a route answers. -/
def VisP (o : Option (List Int)) (w : World) (e : Ending) (w' : World) : Prop := ∃ v, e = .returned (.tuple #[v, .bool o.isSome]) ∧ (o.isSome = true → Own w' w.heap.size v (o.getD [])) ∧ (∃ a m c, v = .slice a m c) ∧ Below w.heap.size w w'
theorem VisP.no {o : Option (List Int)} {w w' : World} {a : Option Addr} {m c : Nat} (h : o = none) (hb : Below w.heap.size w w') : VisP o w (.returned (.tuple #[.slice a m c, .bool false])) w' := by
  subst h
  exact ⟨.slice a m c, rfl, (fun e => (by cases e)), ⟨_, _, _, rfl⟩, hb⟩
theorem VisP.yes {o : Option (List Int)} {w w' : World} {a : Option Addr} {m c : Nat} {xs : List Int} (h : o = some xs) (ho : Own w' w.heap.size (.slice a m c) xs) (hb : Below w.heap.size w w') : VisP o w (.returned (.tuple #[.slice a m c, .bool true])) w' := by
  subst h
  exact ⟨.slice a m c, rfl, fun _ => ho, ⟨_, _, _, rfl⟩, hb⟩
theorem rouN_no1 {n : Net} {r : Rou} (h : inB r.st 0 ((n.ns.length : Int) - 1) = false) : rouN n r = none := by unfold rouN; rw [h]; rfl
theorem rouN_no2 {n : Net} {r : Rou} (h : r.fb.length = 0) : rouN n r = none := by
  have : r.fb = [] := List.eq_nil_of_length_eq_zero h
  unfold rouN; rw [this]; simp
theorem rouN_go {n : Net} {r : Rou} (h : inB r.st 0 ((n.ns.length : Int) - 1) = true) (h2 : r.fb.length ≠ 0) : rouN n r = wlk n [r.st] r.st r.fb := by
  have : r.fb.isEmpty = false := by cases hh : r.fb <;> simp_all
  unfold rouN; rw [h, this]; rfl
theorem own_one (w : World) (x : Int) (T : TypeId) : Own (w.alloc (.cells #[.int .i64 x] T)) w.heap.size (.slice (some ⟨w.heap.size, 0, none⟩) 1 1) [x] :=
  .inr ⟨w.heap.size, 0, 1, #[.int .i64 x], rfl, Nat.le_refl _, ⟨T, heap_alloc_new w _⟩, by simp, by unfold maxLen; omega, by simp, by simp [ints]⟩
set_option maxHeartbeats 3200000 in
theorem visited_any (u1 u2 v3 : Value) (n : Net) (r : Rou) (w : World) (h : NetR w (.agg #[u1, u2]) n) (hr : Rd w v3 r.fb) (hl : r.fb.length ≤ 1100000) :
    Calls Tryz.prog 178 #[.agg #[u1, u2], .agg #[.int .i64 r.st, v3]] w (VisP (rouN n r) w) := by
  obtain ⟨x1, x2, e, r1, r2, hsm⟩ := h
  simp only [Value.agg.injEq, Array.mk.injEq, List.cons.injEq, and_true] at e
  obtain ⟨rfl, rfl⟩ := e
  obtain ⟨a1, m1, c1, rfl, HN1, hc1, hm1, -⟩ := flt_opn (m := 1) (enc := strE) (fun _ => rfl) (by omega) nilS r1
  obtain ⟨a2, m2, c2, rfl, HN2, hc2, hm2, ha2⟩ := flt_opn (m := 4) (enc := fibE) (fun _ => rfl) (by omega) nilB r2
  obtain ⟨a3, c3, m3, HN3, rfl, hc3, hm3, ha3⟩ := hr.opn
  have HO1 := Lib.hid (@rouN_no1 n r)
  have HO2 := Lib.hid (@rouN_no2 n r)
  have HO3 := Lib.hid (@rouN_go n r)
  rw [HN1.out] at HO1 HO3
  rw [HN3.out] at HO2 HO3
  have HX := Lib.hid (fun w' a m c (hb : Below w.heap.size w w') (e : rouN n r = none) => @VisP.no (rouN n r) w w' a m c e hb)
  have HY := Lib.hid (fun w' a m c xs (hb : Below w.heap.size w w') (ho : Own w' w.heap.size (.slice a m c) xs) (e : rouN n r = some xs) => @VisP.yes (rouN n r) w w' a m c xs e ho hb)
  have h10 : m3 ≤ 1100000 := by have := HN3.out; omega
  have HA2 := Lib.hid ha2
  have HA3 := Lib.hid ha3
  obtain ⟨bx, bc, blt, -⟩ := box_facts w #[.slice a1 m1 c1, .slice a2 m2 c2] 35
  obtain ⟨by', bd, bmt, -⟩ := box_facts (w.alloc (.cells #[.slice a1 m1 c1, .slice a2 m2 c2] 35)) #[.int .i64 r.st, .slice a3 m3 c3] 90
  have q0 := (by'.cell (p := ⟨w.heap.size, 0, none⟩) blt).trans (bc 0 _ rfl)
  have q1 := (by'.cell (p := ⟨w.heap.size, 1, none⟩) blt).trans (bc 1 _ rfl)
  have q2 := bd 0 _ rfl
  have q3 := bd 1 _ rfl
  have hs1 : (w.alloc (.cells #[.slice a1 m1 c1, .slice a2 m2 c2] 35)).heap.size = w.heap.size + 1 := by simp
  rw [hs1] at q2 q3 bmt
  have HBX := Lib.hid (bx.trans (by'.mono bx.size))
  have blt2 := Nat.lt_of_lt_of_le blt by'.size
  clear bc bd bx by' hs1 ha2 ha3 r1 r2 blt hr
  go_enter Tryz.func178, Tryz.ntmps178
  cases hin : inB r.st 0 ((m1 : Int) - 1)
  · have HE := Lib.hid (HO1.out hin)
    go_wp2_with (go_at_call 83; refine (within_any _ _ _ _).mono ?_; rintro e w' ⟨rfl, rfl⟩; rw [hin])
    go_ret2
    exact HX.out _ _ _ _ HBX.out HE.out
  by_cases h0 : m3 = 0
  · have HE := Lib.hid (HO2.out h0)
    have b1 : ((m3 : Int) == 0) = true := by rw [beq_iff_eq]; omega
    have b2 : decide ((m3 : Int) = 0) = true := decide_eq_true (by omega)
    clear h0
    go_wp2_with (go_at_call 83; refine (within_any _ _ _ _).mono ?_; rintro e w' ⟨rfl, rfl⟩; rw [hin])
    go_ret2
    exact HX.out _ _ _ _ HBX.out HE.out
  have HE := Lib.hid (HO3.out hin h0)
  have b1 : ((m3 : Int) == 0) = false := by rw [beq_eq_false_iff_ne]; omega
  have b2 : decide ((m3 : Int) = 0) = false := decide_eq_false (by omega)
  clear h0
  go_wp2_with (go_at_call 83; refine (within_any _ _ _ _).mono ?_; rintro e w' ⟨rfl, rfl⟩; rw [hin])
  generalize (w.alloc (.cells #[.slice a1 m1 c1, .slice a2 m2 c2] 35)).alloc (.cells #[.int .i64 r.st, .slice a3 m3 c3] 90) = w2 at *
  have hx1 : ¬ w.heap.size = w2.heap.size := by omega
  have hx2 : ¬ w.heap.size + 1 = w2.heap.size := by omega
  have HO0 := Lib.hid (show Own (w2.drew.alloc (.cells #[.int .i64 r.st] 3)) w2.heap.size (.slice (some ⟨w2.heap.size, 0, none⟩) 1 1) [r.st] from own_one w2.drew r.st 3)
  have HB0 := Lib.hid (((Below.refl w2.heap.size w2).drew).alloc (Nat.le_refl _) (.cells #[.int .i64 r.st] 3))
  go_cut [6, 7] from 24 to 28 (fun s6 s7 wx => s6 = .slice (some ⟨w2.heap.size, 0, none⟩) 1 1 ∧ s7 = .int .i64 r.st ∧ Hid (wx = w2.drew.alloc (.cells #[.int .i64 r.st] 3)))
  case first =>
    go_region_law (fail)
    all_goals
      go_wp2
      go_meet
      exact ⟨rfl, rfl, rfl⟩
  case rest =>
  obtain ⟨rfl, rfl, hw⟩ := hcut
  have hw := hw.out
  subst hw
  generalize w2.drew.alloc (.cells #[.int .i64 r.st] 3) = w3 at *
  have g3 := (HB0.out.cell bmt).trans q3
  clear hx1 hx2 b1 b2 hin
  go_wp2
  clear g3
  go_loopw [6, 7, 9, 32] (fun s6 s7 _ i wr => ∃ (k : Nat) (out : List Int) (t : Int), k ≤ m3 ∧ i = .int .i64 k ∧ s7 = .int .i64 t ∧ Hid (Own wr w2.heap.size s6 out) ∧ Hid (out.length = k + 1) ∧ Hid (wlk n [r.st] r.st r.fb = wlk n out t (r.fb.drop k)) ∧ Hid (Below w2.heap.size w2 wr)) (fun _ _ _ i _ => m3 - (intOf i).toNat)
  case atStart => exact ⟨0, [r.st], r.st, Nat.zero_le _, rfl, rfl, HO0.out, rfl, rfl, HB0.out⟩
  case round =>
    obtain ⟨k, out, t, hk, rfl, rfl, HOW, HLN, HW, HB⟩ := hrel
    obtain ⟨aR, cR, nR, HNR, rfl, hcR, hnR, -⟩ := HOW.out.rd.opn
    by_cases hlt : k < m3
    · have hltI : (k : Int) < (m3 : Int) := by omega
      have HST := Lib.hid (wlk_step (n := n) (out := out) (t := t) (xs := r.fb) (k := k) (by rw [HN3.out]; exact hlt))
      rw [HN2.out] at HST
      obtain ⟨b, off, rfl, hbs, hcs⟩ := HA3.out (by omega)
      have p1 := (HB.out.cell (p := ⟨w.heap.size, 1, none⟩) blt2).trans q1
      have c0 := (HB.out.cell (p := ⟨b, off + k, none⟩) (Nat.lt_of_lt_of_le hbs HBX.out.size)).trans ((HBX.out.cell (p := ⟨b, off + k, none⟩) hbs).trans (hcs k hlt))
      clear hcs
      generalize r.fb[k]?.getD 0 = x at *
      cases hix : inB x 0 ((m2 : Int) - 1)
      · rw [hix] at HST
        have HF := Lib.hid (HE.out.trans (HW.out.trans HST.out))
        go_wp2_with (go_at_call 83; refine (within_any _ _ _ _).mono ?_; rintro e w' ⟨rfl, rfl⟩; rw [hix])
        go_ret2
        exact HX.out _ _ _ _ (HBX.out.trans (HB.out.mono HBX.out.size)) HF.out
      rw [hix] at HST
      obtain ⟨hx0, hx9⟩ := inB_true hix
      obtain ⟨j, rfl⟩ : ∃ j : Nat, x = (j : Int) := ⟨x.toNat, by omega⟩
      have hj : j < m2 := by omega
      have hjI : (j : Int) < (m2 : Int) := by omega
      obtain ⟨b', off', rfl, hbs', hcs'⟩ := HA2.out (by omega)
      have hcw := fun (r : Nat) (u : Value) (hu : (fibE (n.fs[j]?.getD nilB))[r]? = some u) => (HB.out.cell (p := ⟨b', off' + j * 4 + r, none⟩) (Nat.lt_of_lt_of_le hbs' HBX.out.size)).trans ((HBX.out.cell hbs').trans (hcs' j hj r u hu))
      have d0 := hcw 0 _ rfl
      have d1 := hcw 1 _ rfl
      have d2 := hcw 2 _ rfl
      have d3 := hcw 3 _ rfl
      simp only [Nat.add_zero] at d0
      have HOE := Lib.hid (fun w => otherEnd_any (n.fs[j]?.getD nilB) t w)
      have HST2 := Lib.hid (show wlk n out t (r.fb.drop k) = (if othE (n.fs[j]?.getD nilB) t < 0 ∨ othE (n.fs[j]?.getD nilB) t ∈ out then none else wlk n (out ++ [othE (n.fs[j]?.getD nilB) t]) (othE (n.fs[j]?.getD nilB) t) (r.fb.drop (k + 1))) from HST.out)
      unfold fibV at HOE
      clear hcw hcs' HST hx0 hx9
      generalize n.fs[j]?.getD nilB = f at *
      generalize othE f t = o at *
      go_wp2_with (go_at_call 83; refine (within_any _ _ _ _).mono ?_; rintro e w' ⟨rfl, rfl⟩; rw [hix])
      refine (HOE.out _).mono ?_
      rintro e w4 ⟨rfl, b4⟩
      have HB4 := Lib.hid (HB.out.trans (b4.mono HB.out.size))
      have HOW4 := Lib.hid (HOW.out.belowAll b4)
      have HC4 := Lib.hid (containsI_any _ out o w4 HOW4.out.rd)
      clear b4 p1 c0 d0 d1 d2 d3 HOE hix
      by_cases ho : o < 0
      · have HF := Lib.hid (HE.out.trans (HW.out.trans (HST2.out.trans (if_pos (.inl ho)))))
        have hd : decide (o < 0) = true := decide_eq_true ho
        clear ho
        go_wp2
        go_ret2
        exact HX.out _ _ _ _ (HBX.out.trans (HB4.out.mono HBX.out.size)) HF.out
      have hd : decide (o < 0) = false := decide_eq_false ho
      cases hcn : out.contains o
      case true =>
        have HF := Lib.hid (HE.out.trans (HW.out.trans (HST2.out.trans (if_pos (.inr (List.contains_iff_mem.1 hcn))))))
        rw [hcn] at HC4
        clear ho
        go_wp2_with (go_at_call 65; refine (HC4.out).mono ?_; rintro e w' ⟨rfl, rfl⟩)
        go_ret2
        exact HX.out _ _ _ _ (HBX.out.trans (HB4.out.mono HBX.out.size)) HF.out
      have HF := Lib.hid (HW.out.trans (HST2.out.trans (if_neg (fun h => h.elim ho (fun h => by rw [List.contains_iff_mem.2 h] at hcn; cases hcn)))))
      rw [hcn] at HC4
      clear ho hcn
      have HLO := Lib.hid (show out.length ≤ 4000000 by have := HLN.out; omega)
      go_wp2_with (first
        | (go_at_call 65; refine (HC4.out).mono ?_; rintro e w' ⟨rfl, rfl⟩)
        | (at_builtin; go_loud (refine wpList_pushI rfl (.tmp 57) (.tmp 59) 29 rfl Tryz.underlying29 Tryz.infoI w2.heap.size (.slice aR nR cR) out rfl HOW4.out rfl HLO.out HB4.out.size ?_); intro v5 w5 o5 g5 l5; have HO5 := Lib.hid o5; have HB5 := Lib.hid (HB4.out.grown g5 HB4.out.size (fun q hq => (HOW4.out.lt q hq).1)); clear o5 g5 l5))
      go_roundw
      case rel => exact ⟨k + 1, out ++ [o], o, hlt, by go_num, rfl, HO5.out, by show (out ++ [o]).length = k + 1 + 1; rw [List.length_append, HLN.out]; rfl, HF.out, HB5.out⟩
      case measure => simp [intOf]; omega
    · obtain rfl : m3 = k := by omega
      have HF := Lib.hid (show rouN n r = some out by rw [HE.out, HW.out, List.drop_of_length_le (Nat.le_of_eq HN3.out)]; rfl)
      go_wp2
      go_ret2
      exact HY.out _ _ _ _ _ (HBX.out.trans (HB.out.mono HBX.out.size)) (HOW.out.mono HBX.out.size) HF.out
end Go.Proofs.YtmkkdenhjfjmgaaGreat
namespace Go.Proofs.YtmkkdenhjfjmgaaGreat
open Go.RowKit Go.Sort
set_option maxRecDepth 100000

def cmn (xs ys : List Int) : List Int := xs.filter fun x => ys.contains x
theorem cmn_yes {xs ys : List Int} {k : Nat} (hk : k < xs.length) (h : ys.contains (xs[k]?.getD 0) = true) : cmn (xs.take (k + 1)) ys = cmn (xs.take k) ys ++ [xs[k]?.getD 0] := by
  rw [List.getElem?_eq_getElem hk] at h ⊢
  unfold cmn
  rw [List.take_add_one, List.filter_append, List.getElem?_eq_getElem hk]
  simpa using h
theorem cmn_no {xs ys : List Int} {k : Nat} (hk : k < xs.length) (h : ys.contains (xs[k]?.getD 0) = false) : cmn (xs.take (k + 1)) ys = cmn (xs.take k) ys := by
  rw [List.getElem?_eq_getElem hk] at h
  unfold cmn
  rw [List.take_add_one, List.filter_append, List.getElem?_eq_getElem hk]
  simpa using h
theorem cmn_len (xs ys : List Int) : (cmn xs ys).length ≤ xs.length := List.length_filter_le _ _
theorem own_none (w : World) (T : TypeId) : Own (w.alloc (.cells #[] T)) w.heap.size (.slice (some ⟨w.heap.size, 0, none⟩) 0 0) [] :=
  .inr ⟨w.heap.size, 0, 0, #[], rfl, Nat.le_refl _, ⟨T, heap_alloc_new w _⟩, by simp, by unfold maxLen; omega, by simp, by simp [ints]⟩
set_option maxHeartbeats 1600000 in
theorem common_any (va vb : Value) (xs ys : List Int) (w : World) (ha : Rd w va xs) (hb : Rd w vb ys) (hl : xs.length ≤ 1100000) :
    Calls Tryz.prog 98 #[va, vb] w fun e w' => ∃ v', e = .returned v' ∧ Own w' w.heap.size v' (ust (cmn xs ys)) ∧ Below w.heap.size w w' := by
  obtain ⟨a, ca, n, HN, rfl, _, hn, hca⟩ := ha.opn
  have HC := Lib.hid (fun x w' (hw : Below w.heap.size w w') => containsI_any vb ys x w' (hb.belowAll hw))
  obtain ⟨b, cb, m, -, rfl, -, -, -⟩ := hb.opn
  have HA := Lib.hid hca
  have HY := Lib.hid (fun k h1 h2 => @cmn_yes xs ys k h1 h2)
  have HZ := Lib.hid (fun k h1 h2 => @cmn_no xs ys k h1 h2)
  have HL := Lib.hid (fun k => Nat.le_trans (cmn_len (xs.take k) ys) (List.length_take_le k xs))
  have HT := Lib.hid (show xs.take n = xs from List.take_of_length_le (Nat.le_of_eq HN.out))
  have h10 : n ≤ 1100000 := by have := HN.out; omega
  have HO0 := Lib.hid (own_none w 3)
  have HB0 := Lib.hid ((Below.refl w.heap.size w).alloc (Nat.le_refl _) (.cells #[] 3))
  have hN := HN.out
  rw [hN] at HY HZ
  clear hca ha hb hN
  go_enter Tryz.func98, Tryz.ntmps98
  go_wp2
  go_loopw [5, 7, 11] (fun s5 _ i wr => ∃ k : Nat, k ≤ n ∧ i = .int .i64 k ∧ Hid (Own wr w.heap.size s5 (cmn (xs.take k) ys)) ∧ Hid (Below w.heap.size w wr)) (fun _ _ i _ => n - (intOf i).toNat)
  case atStart => exact ⟨0, Nat.zero_le _, rfl, HO0.out, HB0.out⟩
  case round =>
    obtain ⟨k, hk, rfl, HO, HB⟩ := hrel
    obtain ⟨aR, cR, nR, HNR, rfl, hcR, hnR, -⟩ := HO.out.rd.opn
    by_cases hlt : k < n
    · have hltI : (k : Int) < (n : Int) := by omega
      obtain ⟨b', off, rfl, hbs, hcs⟩ := HA.out (by omega)
      have c0 := (HB.out.cell (p := ⟨b', off + k, none⟩) hbs).trans (hcs k hlt)
      have HY1 := Lib.hid (HY.out k hlt)
      have HZ1 := Lib.hid (HZ.out k hlt)
      have HLO := Lib.hid (show (cmn (xs.take k) ys).length ≤ 4000000 by have := HL.out k; omega)
      have HC1 := Lib.hid (HC.out (xs[k]?.getD 0) wr HB.out)
      clear hcs
      generalize xs[k]?.getD 0 = x at *
      generalize cmn (xs.take k) ys = out at *
      cases hcn : ys.contains x
      · have HE := Lib.hid (HZ1.out hcn)
        rw [hcn] at HC1
        clear hcn
        go_wp2_with (go_at_call 65; refine (HC1.out).mono ?_; rintro e w' ⟨rfl, rfl⟩)
        go_roundw
        case rel => exact ⟨k + 1, hlt, by go_num, by rw [HE.out]; exact HO.out, HB.out⟩
        case measure => simp [intOf]; omega
      · have HE := Lib.hid (HY1.out hcn)
        rw [hcn] at HC1
        clear hcn
        go_wp2_with (first
          | (go_at_call 65; refine (HC1.out).mono ?_; rintro e w' ⟨rfl, rfl⟩)
          | (at_builtin; go_loud (refine wpList_pushI rfl (.tmp 18) (.tmp 20) 29 rfl Tryz.underlying29 Tryz.infoI w.heap.size (.slice aR nR cR) out rfl HO.out rfl HLO.out HB.out.size ?_); intro v5 w5 o5 g5 l5; have HO5 := Lib.hid o5; have HB5 := Lib.hid (HB.out.grown g5 HB.out.size (fun q hq => (HO.out.lt q hq).1)); clear o5 g5 l5))
        go_roundw
        case rel => exact ⟨k + 1, hlt, by go_num, by rw [HE.out]; exact HO5.out, HB5.out⟩
        case measure => simp [intOf]; omega
    · obtain rfl : n = k := by omega
      have HLO := Lib.hid (show (cmn (xs.take n) ys).length ≤ 4000000 by have := HL.out n; omega)
      rw [HT.out] at HO HLO
      go_wp2_with fail
      refine (sortI_own _ (cmn xs ys) w.heap.size _ HO.out (Nat.le_trans HLO.out (by decide))).mono ?_
      rintro e w2 ⟨rfl, o2, g2⟩
      have HB2 := Lib.hid (HB.out.grown g2 HB.out.size (fun q hq => (HO.out.lt q hq).1))
      have HO2 := Lib.hid o2
      have HLS := Lib.hid (show (srt (cmn xs ys)).length ≤ 1099511627776 by rw [srt_len]; exact Nat.le_trans HLO.out (by decide))
      clear o2 g2
      go_wp2_with fail
      refine (compactI_own _ (srt (cmn xs ys)) w.heap.size w2 HO2.out HLS.out).mono ?_
      rintro e w3 ⟨v3, rfl, -, o3, g3⟩
      have HB3 := Lib.hid (HB2.out.grown g3 HB2.out.size (fun q hq => (HO2.out.lt q hq).1))
      have HO3 := Lib.hid o3
      obtain ⟨a3, c3, n3, -, rfl, -⟩ := o3.rd.opn
      clear o3 g3
      go_wp2
      go_ret
      exact ⟨_, rfl, HO3.out, HB3.out⟩
end Go.Proofs.YtmkkdenhjfjmgaaGreat
