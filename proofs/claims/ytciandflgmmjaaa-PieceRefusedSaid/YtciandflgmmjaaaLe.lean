/- PieceRefused: places that there are not change nothing. -/
import Derived.Test.YtciandflgmmjaaaBo
import Derived.Deep.DeepFit
namespace Go.Proofs.Ytciandflgmmjaaa
set_option linter.unusedVariables false
set_option linter.unusedSimpArgs false
open Go.RowKit
theorem run_string_rd (w : World) (A : Option Addr) (n c : Nat) (xs : List Int) (h : Rd w (.slice A n c) (xs.map (Value.int .u8))) : (convert 22 9 (.slice A n c)).run Try.prog w = .ok (.string (strOfNums xs)) w := by
  obtain ⟨h1, _, _, h4⟩ := h.at_
  rw [List.length_map] at h1
  rcases Nat.eq_zero_or_pos n with h0 | h0
  · subst h0
    obtain rfl := List.eq_nil_of_length_eq_zero h1
    rcases A with _ | ad
    · exact run_convert_bytes_nil w 22 5 Try.underlying22 Try.underlying5 0 c 9 Try.underlying9
    · rw [run_convert_bytes_string w 22 9 5 _ 0 c Try.underlying22 Try.underlying5 Try.underlying9]
      simp [Conv.bytesToString, loadCells, strOfNums]
      rfl
  · obtain ⟨b, off, _, rfl, _, _⟩ := h4 0 h0
    refine run_convert_bytes_arg w 22 5 Try.underlying22 Try.underlying5 b off n c xs h1 (fun i hi => ?_) 9 Try.underlying9
    obtain ⟨b', off', u, e1, e2, e3⟩ := h4 i hi
    injection e1 with e1
    injection e1 with e1 e4
    subst e1; subst e4
    rw [e3, ← e2, List.getElem?_map, List.getElem?_eq_getElem (by omega), List.getD_eq_getElem?_getD, List.getElem?_eq_getElem (by omega)]
    rfl
theorem errSl_ok (w0 w : World) (t : Nat) (L : List (List Int)) (h : St w0 w t L) (a b : Int) (hL : lens L ≤ 1000000) (hab : ¬ (0 ≤ a ∧ a ≤ b ∧ b ≤ lens L)) :
    Calls Try.prog 15 #[.pointer (some ⟨t, 0, none⟩), .int .i64 a, .int .i64 b] w (errToB w) := by
  obtain ⟨v, hT, _⟩ := h.ex
  exact slice_errB w _ t v _ a b hT (by rw [lens_map]; exact hL) (by rw [lens_map]; exact hab)
set_option maxHeartbeats 4000000 in
theorem refused_ok (w : World) (A : Option Addr) (c : Nat) (fs : List Int) (hf : Rd w (.slice A fs.length c) (fs.map (Value.int .u8))) (lo : Int) (hlo1 : -9223372036854775808 ≤ lo) (hlo2 : lo ≤ 9223372036854775807) (up : Int) (hup1 : -9223372036854775808 ≤ up) (hup2 : up ≤ 9223372036854775807) :
    Calls Try.prog 8 #[.slice A fs.length c, .int .i64 lo, .int .i64 up] w (yes w) := by
  have hfc : fs.length ≤ c ∧ c ≤ 9223372036854775807 := by
    obtain ⟨_, h1, h2, _⟩ := hf.at_
    exact ⟨h1, by simpa [maxLen] using h2⟩
  obtain ⟨hfc1, hfc2⟩ := hfc
  obtain ⟨gs, hgs⟩ : ∃ gs, gs = fs.take 1000 := ⟨_, rfl⟩
  obtain ⟨m, hm⟩ : ∃ m, m = gs.length := ⟨_, rfl⟩
  have hml : m = min fs.length 1000 := by rw [hm, hgs, List.length_take]; omega
  have hm1 : m ≤ 1000 := by omega
  have hm2 : m ≤ fs.length := by omega
  have hg : Rd w (.slice A m c) (gs.map (Value.int .u8)) := by
    have := hf.take_ (i := m) (c' := c) hm2 (by omega) (Nat.le_refl _)
    rwa [← List.map_take, show fs.take m = gs from by
      rw [hgs]
      rcases Nat.le_total fs.length 1000 with h | h
      · rw [List.take_of_length_le (by omega), List.take_of_length_le h]
      · rw [hml, Nat.min_eq_right h]] at this
  have HG := Lib.hid hg
  have HF := Lib.hid hf
  have HM := Lib.hid hm
  have hgood : (0 ≤ lo ∧ lo ≤ up ∧ up ≤ m) ∨ (lo < 0 ∨ (0 ≤ lo ∧ up < lo) ∨ (0 ≤ lo ∧ lo ≤ up ∧ (m : Int) < up)) := by omega
  have hcase : (m = fs.length ∧ fs.length ≤ 1000) ∨ (m = 1000 ∧ 1000 < fs.length) := by omega
  clear hg hf hgs hm hml
  rcases hgood with ⟨hg1, hg2, hg3⟩ | hbad
  · obtain ⟨a, rfl⟩ := Int.eq_ofNat_of_zero_le hg1
    obtain ⟨b, rfl⟩ := Int.eq_ofNat_of_zero_le (Int.le_trans hg1 hg2)
    have hab : a ≤ b := by omega
    have hbm : b ≤ m := by omega
    rcases hcase with ⟨rfl, hc1⟩ | ⟨rfl, hc1⟩
    all_goals
      go_enter Try.func8, Try.ntmps8
      go_wp2_with fail
      refine (works_ok w).mono ?_
      rintro e w1 ⟨rfl, hk1⟩
      go_wp2_with fail
      refine (newS_ok w w1 _ gs hk1 (HG.out.kp hk1 (fun _ _ e => e)) (by rw [← HM.out]; omega)).mono ?_
      rintro e w2 ⟨t, rfl, hT2, hk2⟩
      obtain ⟨L, hL⟩ : ∃ L, L = (if gs = [] then [] else [gs]) := ⟨_, rfl⟩
      have hfl : L.flatten = gs := by
        rw [hL]
        split
        · rename_i h; rw [h]; rfl
        · simp
      have hln : lens L = gs.length := by rw [← hfl]; rfl
      rw [← HM.out] at hln
      have hl1 : L.length ≤ 1 := by rw [hL]; split <;> simp
      rw [← hL] at hT2
      have HT2 := Lib.hid hT2
      have HLN := Lib.hid hln
      clear hT2 hk1 hk2 hL hfl hln
      go_wp2_with fail
      refine (sliceS_ok w w2 t L HT2.out a b (by rw [HLN.out]; omega) hab (by rw [HLN.out]; omega)).mono ?_
      rintro e w3 ⟨u3, rfl, ho3, hk3⟩
      have HT3 := Lib.hid (HT2.out.step hk3)
      obtain ⟨A3, c3, rfl, hc31, hc32⟩ := own_slice ho3
      have hrn := lens_repP L a b [1, 2] hab (by rw [HLN.out]; omega) HT3.out.full
      rw [HLN.out] at hrn
      have hla : ((L.flatten.take b).drop a).length ≤ 1000 := by
        rw [List.length_drop, List.length_take]; omega
      obtain ⟨q, hq⟩ : ∃ q, q = ((L.flatten.take b).drop a).length := ⟨_, rfl⟩
      rw [← hq] at hc31 hla ⊢
      have HRN := Lib.hid hrn
      have d1 : decide ((a : Int) ≤ (b : Int)) = true := by simpa using hab
      have d3 : decide ((b : Int) ≤ 1000) = true := by simp; omega
      clear ho3 hk3 hrn hq HT2
      go_wp2_with fail
      refine (repS_const w w3 t L HT3.out a b [1, 2] (by rw [HLN.out]; omega) (by omega) hab (by rw [HLN.out]; omega) _ (by simp)).mono ?_
      rintro e w4 ⟨rfl, hT4, _⟩
      have hln4 := lenS_ok w w4 t _ hT4 (by rw [HRN.out]; simp; omega)
      rw [HRN.out] at hln4
      have HLN4 := Lib.hid hln4
      have HK4 := Lib.hid hT4.kp
      clear hT4 hln4
      go_wp2_with fail
      refine HLN4.out.mono ?_
      rintro e w5 ⟨rfl, rfl⟩
      go_wp2
      go_ret
      refine ⟨?_, HK4.out⟩
      refine congrArg Ending.returned (congrArg Value.bool (?_ : (_ == _) = true))
      rw [beq_iff_eq]
      omega
  · rcases hcase with ⟨rfl, hc1⟩ | ⟨rfl, hc1⟩
    all_goals
      rcases hbad with hb1 | ⟨hb1, hb2⟩ | ⟨hb1, hb2, hb3⟩
    all_goals
      first
        | have f1 : decide ((0 : Int) ≤ lo) = true := by simpa using hb1
        | have f1 : decide ((0 : Int) ≤ lo) = false := by simpa using hb1
      first
        | have f2 : decide (lo ≤ up) = true := by simpa using hb2
        | have f2 : decide (lo ≤ up) = false := by simpa using hb2
        | skip
      first
        | have f3 : decide (up ≤ (fs.length : Int)) = false := by simpa using hb3
        | have f3 : decide (up ≤ (1000 : Int)) = false := by simpa using hb3
        | skip
      go_enter Try.func8, Try.ntmps8
      go_wp2_with fail
      refine (works_ok w).mono ?_
      rintro e w1 ⟨rfl, hk1⟩
      go_wp2_with fail
      refine (newS_ok w w1 _ gs hk1 (HG.out.kp hk1 (fun _ _ e => e)) (by rw [← HM.out]; omega)).mono ?_
      rintro e w2 ⟨t, rfl, hT2, hk2⟩
      obtain ⟨L, hL⟩ : ∃ L, L = (if gs = [] then [] else [gs]) := ⟨_, rfl⟩
      have hfl : L.flatten = gs := by
        rw [hL]
        split
        · rename_i h; rw [h]; rfl
        · simp
      have hln : lens L = gs.length := by rw [← hfl]; rfl
      rw [← HM.out] at hln
      have hlm : L.length = min gs.length 1 := by
        rw [hL]
        split
        · rename_i h; rw [h]; rfl
        · rename_i h
          have : 0 < gs.length := by
            rcases Nat.eq_zero_or_pos gs.length with h0 | h0
            · exact absurd (List.eq_nil_of_length_eq_zero h0) h
            · exact h0
          simp only [List.length_cons, List.length_nil]
          omega
      rw [← HM.out] at hlm
      have hl1 : L.length ≤ 1 := by omega
      have HLM := Lib.hid hlm
      clear hlm
      rw [← hL] at hT2
      have HT2 := Lib.hid hT2
      have HLN := Lib.hid hln
      have HFL := Lib.hid hfl
      clear hT2 hk1 hk2 hL hfl hln
      go_wp2_with fail
      refine (errSl_ok w w2 t L HT2.out lo up (by rw [HLN.out]; omega) (by rw [HLN.out]; omega)).mono ?_
      rintro e w3 ⟨rfl, hk3⟩
      have HT3 := Lib.hid (HT2.out.step hk3)
      clear hk3 HT2
      go_wp2_with fail
      refine (errS_ok w _ t L (HT3.out.step ((Kp.refl w3 nob).alloc _)) lo up _ (by rw [HLN.out]; omega) (by rw [HLN.out]; omega)).mono ?_
      rintro e w4 ⟨rfl, hw4⟩
      have hk4 : Kp w3 w4 nob := by rw [← hw4]; exact (Kp.refl w3 nob).alloc _
      have HT4 := Lib.hid (HT3.out.step hk4)
      have hcv := run_string_rd w4 A _ c gs (HG.out.kp HT4.out.kp (fun _ _ e => e))
      clear hw4 hk4
      go_wp2_with fail
      all_goals
        have htl := tellsS_ok w w4 t L HT4.out (by rw [HLN.out]; omega) (strOfNums gs) (by rw [HFL.out]) (by omega)
        rw [HLM.out] at htl
        first
          | (go_fit htl)
          | (rw [Nat.min_eq_right (by omega)] at htl; go_fit htl)
          | (rw [Nat.min_eq_left (by omega)] at htl; go_fit htl)
        rintro e w5 ⟨rfl, hk5⟩
        have hfin : yes w (.returned (.bool true)) w5 := ⟨rfl, HT4.out.kp.trans hk5 (fun _ _ e => e)⟩
        have HFIN := Lib.hid hfin
        clear hfin
        go_wp2
        go_ret
        exact HFIN.out
end Go.Proofs.Ytciandflgmmjaaa
