/- PieceBack: what is replaced, and replaced back, is as it was. -/
import Derived.Test.YtciandflgmmjaaaBo
import Derived.Deep.DeepFit
namespace Go.Proofs.Ytciandflgmmjaaa
set_option linter.unusedVariables false
set_option linter.unusedSimpArgs false
open Go.RowKit
theorem back_list (g W : List Int) (a b : Nat) (hab : a ≤ b) (hb : b ≤ g.length) : (g.take a ++ W ++ g.drop b).take a ++ (g.take b).drop a ++ (g.take a ++ W ++ g.drop b).drop (a + W.length) = g := by
  have h1 : (g.take a).length = a := by rw [List.length_take]; omega
  have e1 : (g.take a ++ W ++ g.drop b).take a = g.take a := by rw [List.append_assoc, List.take_append_of_le_length (by omega), List.take_of_length_le (by omega)]
  have e2 : (g.take a ++ W ++ g.drop b).drop (a + W.length) = g.drop b := by rw [List.drop_append_of_le_length (by rw [List.length_append]; omega), List.drop_of_length_le (by rw [List.length_append]; omega), List.nil_append]
  have h2 : g.take a = (g.take b).take a := by rw [List.take_take, Nat.min_eq_left hab]
  have e3 : g.take a ++ (g.take b).drop a = g.take b := by rw [h2]; exact List.take_append_drop a (g.take b)
  rw [e1, e2, e3, List.take_append_drop]
set_option maxHeartbeats 4000000 in
theorem back_ok (w : World) (A : Option Addr) (c : Nat) (fs : List Int) (hf : Rd w (.slice A fs.length c) (fs.map (Value.int .u8))) (d0 d1 d2 : Int) (h00 : -9223372036854775808 ≤ d0) (h01 : d0 ≤ 9223372036854775807) (h10 : -9223372036854775808 ≤ d1) (h11 : d1 ≤ 9223372036854775807) (h20 : -9223372036854775808 ≤ d2) (h21 : d2 ≤ 9223372036854775807) :
    Calls Try.prog 4 #[.slice A fs.length c, .agg #[.int .i64 d0, .int .i64 d1, .int .i64 d2]] w (yes w) := by
  have hfc : fs.length ≤ c ∧ c ≤ 9223372036854775807 := by
    obtain ⟨_, h1, h2, _⟩ := hf.at_
    exact ⟨h1, by simpa [maxLen] using h2⟩
  obtain ⟨hfc1, hfc2⟩ := hfc
  obtain ⟨gs, hgs⟩ : ∃ gs, gs = fs.take 1000 := ⟨_, rfl⟩
  obtain ⟨m, hm⟩ : ∃ m, m = gs.length := ⟨_, rfl⟩
  have hml : m = min fs.length 1000 := by rw [hm, hgs, List.length_take]; omega
  have hm1 : m ≤ 1000 := by omega
  have hm2 : m ≤ fs.length := by omega
  have hg : Rd w (.slice A m c) (gs.map (Value.int .u8)) := by
    have := hf.take_ (i := m) (c' := c) hm2 (by omega) (Nat.le_refl _)
    rwa [← List.map_take, show fs.take m = gs from by
      rw [hgs]
      rcases Nat.le_total fs.length 1000 with h | h
      · rw [List.take_of_length_le (by omega), List.take_of_length_le h]
      · rw [hml, Nat.min_eq_right h]] at this
  have HG := Lib.hid hg
  have HF := Lib.hid hf
  have HM := Lib.hid hm
  have hcase : (m = fs.length ∧ fs.length ≤ 1000) ∨ (m = 1000 ∧ 1000 < fs.length) := by omega
  clear hg hf hgs hm hml
  rcases hcase with ⟨rfl, hc1⟩ | ⟨rfl, hc1⟩
  all_goals
    go_enter Try.func4, Try.ntmps4
    go_wp2_with fail
    refine (works_ok _).mono ?_
    rintro e w1 ⟨rfl, hk1⟩
    have hk01 : Kp w w1 nob := ((Kp.refl w nob).alloc (.cells #[.int .i64 d0, .int .i64 d1, .int .i64 d2] 30)).trans hk1 (fun _ _ e => e)
    have c0 : (w.alloc (.cells #[.int .i64 d0, .int .i64 d1, .int .i64 d2] 30)).cell? ⟨w.heap.size, 0, none⟩ = some (.int .i64 d0) := by simp [go_sem]
    have c1 : (w.alloc (.cells #[.int .i64 d0, .int .i64 d1, .int .i64 d2] 30)).cell? ⟨w.heap.size, 1, none⟩ = some (.int .i64 d1) := by simp [go_sem]
    have c2 : (w.alloc (.cells #[.int .i64 d0, .int .i64 d1, .int .i64 d2] 30)).cell? ⟨w.heap.size, 2, none⟩ = some (.int .i64 d2) := by simp [go_sem]
    have e0 := hk1.cell c0 id
    have e1 := hk1.cell c1 id
    have e2 := hk1.cell c2 id
    go_wp2_with fail
    refine (newS_ok w w1 _ gs hk01 (HG.out.kp hk01 (fun _ _ e => e)) (by rw [← HM.out]; omega)).mono ?_
    rintro e w2 ⟨t, rfl, hT2, hk2⟩
    have e0' := hk2.cell e0 id
    have e1' := hk2.cell e1 id
    have e2' := hk2.cell e2 id
    have HT2 := Lib.hid hT2
    have HM2 := Lib.hid HM.out
    obtain ⟨L, hL⟩ : ∃ L, L = (if gs = [] then [] else [gs]) := ⟨_, rfl⟩
    have hfl : L.flatten = gs := by
      rw [hL]
      split
      · rename_i h; rw [h]; rfl
      · simp
    have hln : lens L = gs.length := by rw [← hfl]; rfl
    rw [← HM.out] at hln
    have hl1 : L.length ≤ 1 := by rw [hL]; split <;> simp
    rw [← hL] at hT2
    have HT2 := Lib.hid hT2
    have HFL := Lib.hid hfl
    have HLN := Lib.hid hln
    clear hT2 hk1 hk2 e0 e1 e2 c0 c1 c2 hL hfl hln
    go_wp2_with fail
    first
      | (go_fit (deedN_ok w2 d0 d1 d2 fs.length (by omega) h00 h01 h10 h11 h20 h21))
      | (go_fit (deedN_ok w2 d0 d1 d2 1000 (by omega) h00 h01 h10 h11 h20 h21))
    rintro e w3 ⟨a, b, u3, rfl, ea, eb, hab, hbn, ho3, hk3⟩
    clear ea eb
    have hwl := deedW_len d2
    have HT3 := Lib.hid (HT2.out.step hk3)
    have HO3 := Lib.hid ho3
    obtain ⟨A3, c3, rfl, hc31, hc32⟩ := own_slice ho3
    clear ho3 hk3 HT2
    obtain ⟨od, hod⟩ : ∃ od, od = (L.flatten.take b).drop a := ⟨_, rfl⟩
    have hsl := sliceS_ok w w3 t L HT3.out a b (by rw [HLN.out]; omega) hab (by rw [HLN.out]; omega)
    rw [← hod] at hsl
    have hodl : od.length ≤ 1000 := by rw [hod, List.length_drop, List.length_take, ← lens_flat, HLN.out]; omega
    have hodn : od.length = b - a := by rw [hod, List.length_drop, List.length_take, ← lens_flat, HLN.out]; omega
    have HSL := Lib.hid hsl
    have HOD := Lib.hid hod
    have HON := Lib.hid hodn
    clear hsl hod hodn
    go_wp2_with fail
    refine HSL.out.mono ?_
    rintro e w4 ⟨u4, rfl, ho4, hk4⟩
    have HT4 := Lib.hid (HT3.out.step hk4)
    have HO34 := Lib.hid (own_kp HO3.out hk4 (fun _ _ e => e))
    have HO4 := Lib.hid ho4
    obtain ⟨A4, c4, rfl, hc41, hc42⟩ := own_slice ho4
    clear ho4 hk4 HT3 HO3
    go_wp2_with fail
    refine (repS_ok w w4 t L HT4.out a b _ (deedW d2) (by rw [HLN.out]; omega) (by omega) hab (by rw [HLN.out]; omega) HO34.out (by omega)).mono ?_
    rintro e w5 ⟨rfl, hT5, hr5⟩
    have HO5 := Lib.hid (hr5 _ _ _ _ HO4.out)
    have hrl := repP_law L a b (deedW d2) hab (by rw [HLN.out]; omega) HT4.out.full
    have hrn := lens_repP L a b (deedW d2) hab (by rw [HLN.out]; omega) HT4.out.full
    rw [HFL.out] at hrl
    rw [HLN.out] at hrn
    obtain ⟨L2, hL2⟩ : ∃ L2, L2 = repP L a b (deedW d2) := ⟨_, rfl⟩
    rw [← hL2] at hrl hrn hT5
    have HT5 := Lib.hid hT5
    have HRL := Lib.hid hrl.1
    have hrl2 := hrl.2.1
    have hrp := repS_ok w w5 t L2 hT5 a (a + (deedW d2).length) _ _ (by omega) (by omega) (by omega) (by omega) HO5.out (by omega)
    rw [Int.natCast_add] at hrp
    have HRP := Lib.hid hrp
    have HRN := Lib.hid hrn
    clear hrl hrn hT5 hL2 hr5 HT4 HO34 hrp
    go_wp2_with fail
    refine HRP.out.mono ?_
    rintro e w6 ⟨rfl, hT6, hr6⟩
    have hfin : (repP L2 a (a + (deedW d2).length) od).flatten = gs := by
      rw [(repP_law L2 a (a + (deedW d2).length) _ (by omega) (by rw [HRN.out]; omega) HT5.out.full).1, HRL.out, HOD.out, HFL.out]
      exact back_list gs (deedW d2) a b hab (by rw [← HM.out]; exact hbn)
    obtain ⟨L3, hL3⟩ : ∃ L3, L3 = repP L2 a (a + (deedW d2).length) od := ⟨_, rfl⟩
    rw [← hL3] at hT6 hfin
    have hl3 : lens L3 = gs.length := by rw [← hfin]; rfl
    rw [← HM.out] at hl3
    have hln3 := lenS_ok w w6 t L3 hT6 (by omega)
    have hsl3 := sliceS_all w w6 t L3 hT6 (by omega)
    rw [hl3] at hln3 hsl3
    rw [hfin] at hsl3
    have HLN3 := Lib.hid hln3
    have HSL3 := Lib.hid hsl3
    have HT6 := Lib.hid hT6
    clear hT6 hln3 hsl3 hfin hL3 hl3 hr6 HT5 HRL HRP HRN HO5
    go_wp2_with fail
    refine HLN3.out.mono ?_
    rintro e w7 ⟨rfl, rfl⟩
    go_wp2_with fail
    refine HSL3.out.mono ?_
    rintro e w8 ⟨u8, rfl, ho8, hk8⟩
    have HT8 := Lib.hid (HT6.out.step hk8)
    have heq := eq_okB w8 _ _ gs gs (Rd.of_own ho8) (HG.out.kp HT8.out.kp (fun _ _ e => e))
    rw [decide_eq_true rfl] at heq
    have HEQ := Lib.hid heq
    obtain ⟨A8, c8, rfl, hc81, hc82⟩ := own_slice ho8
    clear heq ho8 hk8 HT6
    go_wp2_with fail
    refine HEQ.out.mono ?_
    rintro e w9 ⟨rfl, hd9⟩
    have hfin : yes w (.returned (.bool true)) w9 := ⟨rfl, HT8.out.kp.trans (hd9.kp nob) (fun _ _ e => e)⟩
    have HFIN := Lib.hid hfin
    clear hfin
    go_wp2
    go_ret
    exact HFIN.out
end Go.Proofs.Ytciandflgmmjaaa
