/- Walks: the stream that FnFrames draws. -/
import Derived.Test.YtlemielobmbadaaFrmE
import Derived.Test.YtlemielobmbadaaZapp
namespace Go.Proofs.Ytlemielobmbadaa
open Go.RowKit
set_option maxRecDepth 100000

theorem row_below' {w w' : World} {base n : Nat} {v : Value} {T : TypeId} {us : List Value} (h : w.ownsRow base T 1 v n us) (hb : Below w.heap.size w w') : w'.ownsRow base T 1 v n us :=
  ownsRow_kept h (fun x hx => hb.block x (h.lt x hx).2)
theorem row_set {w : World} {base b j n : Nat} {v u : Value} {T : TypeId} {us : List Value} (h : w.ownsRow base T 1 v n us) (hb : ∀ k, v.ownBlock = some k → k ≠ b) : (w.setCell ⟨b, j, none⟩ u).ownsRow base T 1 v n us :=
  ownsRow_kept h (fun x hx => heap_setCell_other w ⟨b, j, none⟩ x u (fun e => hb x hx e))
/-- The stream so far: its value, how long, and that only the cursor has moved. -/
def Sst (W : World) (b0 B : Nat) (c : Value) (K L : Nat) (os : Value) (wx : World) : Prop := ∃ xs : List Int, xs.length ≤ L ∧ wx.ownsRow b0 3 1 os xs.length (ints xs) ∧ CS W B c K wx
set_option maxHeartbeats 6400000 in
theorem drawFF_any (v : Value) (w : World) (h : RdB w v) :
    Calls Try.prog 45 #[v] w (DrP w 1000) := by
  obtain ⟨a, len, cap, rfl, hrd⟩ := h
  have hal := (Below.refl w.heap.size w).alloc (Nat.le_refl _) (.cells #[.slice a len cap, .int .i64 0, .int .u64 0] 76)
  have HH := Lib.hid (curN (w := w) (v := .slice a len cap) ⟨a, len, cap, rfl, hrd⟩)
  have HB0 := Lib.hid hal
  have hszW : (w.alloc (.cells #[.slice a len cap, .int .i64 0, .int .u64 0] 76)).heap.size = w.heap.size + 1 := by simp
  have HSW := Lib.hid hszW
  clear hrd hal hszW
  go_enter Try.func45, Try.ntmps45
  go_upto_region 3 with fail
  generalize w.alloc (.cells #[.slice a len cap, .int .i64 0, .int .u64 0] 76) = W at *
  have hszW := HSW.out
  have C0 := Lib.hid (HH.out.here.alloc (.cells #[] 3))
  have HR0 := Lib.hid (show (W.alloc (.cells #[] 3)).ownsRow (w.heap.size + 1) 3 1 (.slice (some ⟨w.heap.size + 1, 0, none⟩) 0 0) 0 (ints []) from by
    have := World.ownsRow_lit (base := W.heap.size) (e := 3) (size := 1) W #[] 0 (Nat.le_refl _) (by simp) rfl
    rw [hszW] at this; exact this)
  clear HH
  go_wp2_with fail
  refine (pickC w.heap.size _ _ 5 _ C0.out.st (by omega) (by omega) (by omega)).mono ?_
  rintro e w1 ⟨n0, n00, n01, rfl, c1, -⟩
  obtain ⟨n0, rfl⟩ := Int.eq_ofNat_of_zero_le n00
  have S1 := Lib.hid (show Sst W (w.heap.size + 1) w.heap.size (.slice a len cap) 10 0 (.slice (some ⟨w.heap.size + 1, 0, none⟩) 0 0) w1 from ⟨[], Nat.le_refl _, row_cs HR0.out (Nat.lt_succ_self _) c1, (C0.out.call c1).mono (by omega)⟩)
  clear c1 C0 HR0
  go_wp2_with fail
  go_loopw [4, 5, 6, 7] (fun os nv _ _ wr => ∃ n : Nat, nv = .int .i64 (n : Int) ∧ n ≤ 4 ∧ Hid (Sst W (w.heap.size + 1) w.heap.size (.slice a len cap) (1000 - 200 * n) (100 - 20 * n) os wr)) (fun _ nv _ _ _ => (intOf nv).toNat)
  case atStart =>
    obtain ⟨xs, h1, h2, h3⟩ := S1.out
    exact ⟨n0, rfl, by omega, ⟨xs, by omega, h2, h3.mono (by omega)⟩⟩
  case round =>
    obtain ⟨n, rfl, hn4, HS⟩ := hrel
    clear S1
    by_cases hn : 0 < n
    · have hnI : (0 : Int) < (n : Int) := by omega
      have hnb : decide ((0 : Int) < (n : Int)) = true := by simpa using hnI
      obtain ⟨xs, hxl, hrow, hcs⟩ := HS.out
      go_wp2_with fail
      refine (pickC w.heap.size _ _ 4 _ hcs.st (by omega) (by omega) (by omega)).mono ?_
      rintro e w2 ⟨k0, k00, k01, rfl, c2, -⟩
      obtain ⟨k0, rfl⟩ := Int.eq_ofNat_of_zero_le k00
      have S2 := Lib.hid (show ∃ L K, L + k0 ≤ 103 - 20 * n ∧ K + 10 * k0 ≤ 1040 - 200 * n ∧ Sst W (w.heap.size + 1) w.heap.size (.slice a len cap) K L u4 w2 from ⟨100 - 20 * n, 1002 - 200 * n, by omega, by omega, xs, hxl, row_cs hrow (Nat.lt_succ_self _) c2, (hcs.call c2).mono (by omega)⟩)
      clear c2 hcs hrow HS hxl
      go_wp2_with fail
      go_loopw [4, 6] (fun os kv wr => ∃ k L K : Nat, kv = .int .i64 (k : Int) ∧ k ≤ 3 ∧ L + k ≤ 103 - 20 * n ∧ K + 10 * k ≤ 1040 - 200 * n ∧ Hid (Sst W (w.heap.size + 1) w.heap.size (.slice a len cap) K L os wr)) (fun _ kv _ => (intOf kv).toNat)
      case atStart =>
        obtain ⟨L, K, e1, e2, e3⟩ := S2.out
        exact ⟨k0, L, K, rfl, by omega, e1, e2, e3⟩
      case round =>
        obtain ⟨k, L, K, rfl, hk3, hL, hK, HS⟩ := hrel
        clear S2
        obtain ⟨xs, hxl, hrow, hcs⟩ := HS.out
        have HXL := Lib.hid hxl
        obtain ⟨ae, ce, ne, HNE, rfl, _, _, _⟩ := (own_of_row hrow).rd.opn
        obtain rfl : xs.length = ne := HNE.out
        by_cases hk : 0 < k
        · have hkI : (0 : Int) < (k : Int) := by omega
          have hkb : decide ((0 : Int) < (k : Int)) = true := by simpa using hkI
          clear HS hxl HNE
          go_wp2_with fail
          refine (pickC w.heap.size _ _ 256 _ hcs.st (by omega) (by omega) (by omega)).mono ?_
          rintro e w3 ⟨y, y0, y1, rfl, c3, -⟩
          have H3 := Lib.hid (row_cs hrow (Nat.lt_succ_self _) c3)
          have C3 := Lib.hid ((hcs.call c3).alloc (.cells (ints [246, 40, 0, y]).toArray 3))
          have hs3 := (hcs.call c3).size
          have hr : ∀ x ∈ [246, 40, 0, y], (0 : Int) ≤ x ∧ x ≤ 255 := by
            intro x hx; simp only [List.mem_cons, List.not_mem_nil, or_false] at hx; omega
          clear c3 hcs hrow
          go_wp2_with fail
          refine (amongL w.heap.size _ _ [246, 40, 0, y] 0 255 _ w3 rfl w3.heap.size 4 4 rfl (by simp) (by omega) C3.out.st (by omega) (by omega) (by omega) hr).mono ?_
          rintro e w4 ⟨z, z0, z1, rfl, c4, -⟩
          have H4 := Lib.hid (row_cs (row_alloc H3.out _) (Nat.lt_succ_self _) c4)
          have C4 := Lib.hid (C3.out.call c4)
          have hs4 := C4.out.size
          have HLT := Lib.hid (fun x hx => (H4.out.lt x hx).1)
          have hxb : xs.length ≤ 200 := by have := HXL.out; omega
          have hle : (xs ++ [z]).length = xs.length + 1 := by simp
          have HLE := Lib.hid hle
          clear c4 C3 H3 hr hle y0 y1
          go_wp2_with (at_builtin; go_loud (refine wpList_push rfl (.tmp 24) (.tmp 30) 24 rfl Try.underlying24 Try.infoInt (w.heap.size + 1) (.slice ae xs.length ce) xs.length xs rfl H4.out rfl (by omega) (by omega) ?_; intro v5 w5 hown5 hgrow5; rw [← HLE.out] at hown5; have H5 := Lib.hid hown5; have C5 := Lib.hid (C4.out.grown hgrow5 (fun g hg => by have := HLT.out g hg; omega)); clear hown5 hgrow5))
          go_roundw
          case rel => exact ⟨k - 1, L + 1, K + 4, int_eq (by omega), by omega, by omega, by omega, ⟨xs ++ [z], by rw [HLE.out]; have := HXL.out; omega, H5.out, C5.out.mono (by omega)⟩⟩
          case measure => simp only [intOf]; omega
        · obtain rfl : k = 0 := by omega
          have HRW := Lib.hid hrow
          have HCS := Lib.hid hcs
          clear HS hxl HNE hrow hcs
          go_wp2_with fail
          refine (frameC w.heap.size _ _ _ HCS.out.st (by omega)).mono ?_
          rintro e w3 ⟨v3, f, rfl, hok, o3, c3⟩
          have H3 := Lib.hid (row_cs HRW.out (Nat.lt_succ_self _) c3)
          have C3 := Lib.hid (HCS.out.call c3)
          have RF := Lib.hid o3.rd
          have hl12 := (frmOk_parts hok).2.2.1
          have h17 := frmL_len hl12
          have HL17 := Lib.hid h17
          clear c3 o3 HRW HCS
          go_wp2_with fail
          refine (l23List_any _ f _ RF.out hl12).mono ?_
          rintro e w4 ⟨v4, rfl, o4, b4⟩
          have H4 := Lib.hid (row_below' H3.out b4)
          have C4 := Lib.hid (C3.out.below b4)
          have hs3 := C3.out.size
          have hlt3 := Lib.hid (fun x hx => (H3.out.lt x hx).2)
          obtain ⟨g, f0, cp, rfl, hg1, hg2, hcp1, hcp2⟩ := o4.openN h17 (by omega)
          have HO4 := Lib.hid o4
          clear b4 o4 RF hl12 h17 hok H3 C3
          generalize frmL f = bs at *
          go_wp2_with fail
          refine (oneC w.heap.size _ _ 5 _ C4.out.st (by omega) (by omega) (by omega)).mono ?_
          rintro e w5 ⟨bb, rfl, c5, -⟩
          have H5 := Lib.hid (row_cs H4.out (Nat.lt_succ_self _) c5)
          have C5 := Lib.hid (C4.out.call c5)
          have HO5 := Lib.hid (HO4.out.cs (by omega) c5)
          clear c5 H4 C4 HO4
          go_upto_if 36 with fail
          go_cut [] from 37 to 44 (fun wx => Hid (∃ bs : List Int, bs.length = 17 ∧ Own wx w3.heap.size (.slice (some ⟨g, f0, none⟩) 17 cp) bs ∧ wx.ownsRow (w.heap.size + 1) 3 1 (.slice ae xs.length ce) xs.length (ints xs) ∧ CS W w.heap.size (.slice a len cap) (K + 88) wx))
          case first =>
            cases bb
            · go_wp2
              go_meet
              exact ⟨bs, HL17.out, HO5.out, H5.out, C5.out.mono (by omega)⟩
            · go_wp2_with fail
              refine (pickC w.heap.size _ _ 17 _ C5.out.st (by omega) (by omega) (by omega)).mono ?_
              rintro e w6 ⟨p, p0, p1, rfl, c6, -⟩
              obtain ⟨p, rfl⟩ := Int.eq_ofNat_of_zero_le p0
              have hp17 : p < 17 := by omega
              have hpI : (p : Int) < 17 := by omega
              have H6 := Lib.hid (row_cs H5.out (Nat.lt_succ_self _) c6)
              have C6 := Lib.hid (C5.out.call c6)
              have HO6 := Lib.hid (HO5.out.cs (by omega) c6)
              clear c6 H5 C5 HO5
              go_wp2_with fail
              refine (pickC w.heap.size _ _ 256 _ C6.out.st (by omega) (by omega) (by omega)).mono ?_
              rintro e w7 ⟨z, -, -, rfl, c7, -⟩
              have H7 := Lib.hid (row_cs H6.out (Nat.lt_succ_self _) c7)
              have C7 := Lib.hid (C6.out.call c7)
              have HO7 := HO6.out.cs (by omega) c7
              have hcell := (HO7.cellAt rfl).2 p (by rw [HL17.out]; exact hp17)
              have hfr := HO7.frozenAt rfl (f0 + p)
              have HOF := Lib.hid (HO7.stored rfl p (by rw [HL17.out]; exact hp17) z).1
              clear c7 H6 C6 HO6 HO7
              go_wp2
              go_meet
              exact ⟨bs.set p z, by rw [List.length_set]; exact HL17.out, HOF.out, row_set H7.out (fun k hk => by have := hlt3.out k hk; omega), (C7.out.set (by omega) _).mono (by omega)⟩
          case rest =>
          obtain ⟨bs', hb17, hob, hrow, hcs⟩ := hcut.out
          have HCS := Lib.hid hcs
          have hrd := hob.rd
          have hs5 := hcs.size
          have hxb : xs.length ≤ 120 := by have := HXL.out; omega
          have HLT := Lib.hid (fun x hx => (hrow.lt x hx).1)
          have hle : (xs ++ bs').length = xs.length + bs'.length := by simp
          have HLE := Lib.hid hle
          have HB17 := Lib.hid hb17
          clear hcut hob H5 C5 HO5 hcs hb17 hle
          go_wp2_with (at_builtin; go_loud (refine wpList_cat rfl (.tmp 45) (.tmp 46) 24 rfl Try.underlying24 Try.infoInt (w.heap.size + 1) (.slice ae xs.length ce) xs.length xs rfl hrow _ bs' rfl hrd (by rw [HB17.out]; decide) (by rw [HB17.out]; omega) (by omega) ?_; intro v8 w8 hown8 hgrow8; rw [← HLE.out] at hown8; have H8 := Lib.hid hown8; have C8 := Lib.hid (HCS.out.grown hgrow8 (fun g hg => by have := HLT.out g hg; omega)); clear hown8 hgrow8 hrow hrd))
          go_roundw
          case rel => exact ⟨n - 1, int_eq (by omega), by omega, ⟨xs ++ bs', by rw [HLE.out, HB17.out]; have := HXL.out; omega, H8.out, C8.out.mono (by omega)⟩⟩
          case measure => simp only [intOf]; omega
    · obtain rfl : n = 0 := by omega
      obtain ⟨xs, hxl, hrow, hcs⟩ := HS.out
      obtain ⟨ae, ce, ne, HNE, rfl, _, _, _⟩ := (own_of_row hrow).rd.opn
      obtain rfl : xs.length = ne := HNE.out
      have HRW := Lib.hid hrow
      have HXL := Lib.hid (show xs.length ≤ 100 by omega)
      have HLT := Lib.hid (fun x hx => (hrow.lt x hx).1)
      clear HS hrow HNE hxl
      go_wp2_with fail
      refine (pickC w.heap.size _ _ 40 _ hcs.st (by omega) (by omega) (by omega)).mono ?_
      rintro e w2 ⟨x, x0, x1, rfl, c2, -⟩
      have H2 := Lib.hid (row_cs HRW.out (Nat.lt_succ_self _) c2)
      have C2 := Lib.hid (hcs.call c2)
      have hs2 := C2.out.size
      have hxb := HXL.out
      clear c2 hcs HRW
      by_cases e0 : x = 0
      · subst e0
        have C3 := Lib.hid (C2.out.alloc (.cells (ints [-1, 256]).toArray 3))
        have H3 := Lib.hid (row_alloc H2.out (.cells (ints [-1, 256]).toArray 3))
        clear C2 H2
        go_wp2_with fail
        refine (amongL w.heap.size _ _ [-1, 256] (-1) 256 _ w2 rfl w2.heap.size 2 2 rfl (by simp) (by omega) C3.out.st (by omega) (by omega) (by omega) (by decide)).mono ?_
        rintro e w4 ⟨z, -, -, rfl, c4, -⟩
        have H4 := Lib.hid (row_cs H3.out (Nat.lt_succ_self _) c4)
        have C4 := Lib.hid (C3.out.call c4)
        have hs4 := C4.out.size
        clear c4 C3 H3
        go_wp2_with (at_builtin; go_loud (refine wpList_push rfl (.tmp 52) (.tmp 56) 24 rfl Try.underlying24 Try.infoInt (w.heap.size + 1) (.slice ae xs.length ce) xs.length xs rfl H4.out rfl (by omega) (by omega) ?_; intro v5 w5 hown5 hgrow5; have H5 := Lib.hid (own_of_row hown5); have C5 := Lib.hid (C4.out.grown hgrow5 (fun g hg => by have := HLT.out g hg; omega)); clear hown5 hgrow5))
        have HB5 := Lib.hid (C5.out.belowAll HB0.out (Nat.le_refl _))
        go_ret
        exact ⟨_, _, rfl, by rw [List.length_append]; show xs.length + 1 ≤ 1000; omega, H5.out.mono (Nat.le_succ _), HB5.out⟩
      by_cases e1 : x = 1
      · subst e1
        have hrow := H2.out
        go_wp2_with (at_builtin; go_loud (refine wpList_catZeros rfl (.tmp 60) (.const (.int .i64 400)) 24 3 rfl Try.underlying24 Try.underlying3 Try.infoInt (w.heap.size + 1) xs.length 400 (.slice ae xs.length ce) xs rfl rfl hrow (by omega) (by omega) (by omega) ?_; intro v5 w5 hown5 hgrow5; have H5 := Lib.hid (own_of_row hown5); have C5 := Lib.hid (C2.out.grown hgrow5 (fun g hg => by have := HLT.out g hg; omega)); clear hown5 hgrow5 hrow))
        have HB5 := Lib.hid (C5.out.belowAll HB0.out (Nat.le_refl _))
        go_ret
        exact ⟨_, _, rfl, by rw [List.length_append, List.length_replicate]; omega, H5.out.mono (Nat.le_succ _), HB5.out⟩
      · have f0' : (x == 0) = false := by simpa using e0
        have f1' : (x == 1) = false := by simpa using e1
        have HB5 := Lib.hid (C2.out.belowAll HB0.out (Nat.le_refl _))
        have H5 := Lib.hid (own_of_row H2.out)
        go_wp2
        go_ret
        exact ⟨_, xs, rfl, by omega, H5.out.mono (Nat.le_succ _), HB5.out⟩
end Go.Proofs.Ytlemielobmbadaa
