/- PieceFew: each replacement makes two pieces more at most; no more pieces than elements. -/
import Derived.Test.YtciandflgmmjaaaBo
namespace Go.Proofs.Ytciandflgmmjaaa
set_option linter.unusedVariables false
set_option linter.unusedSimpArgs false
open Go.RowKit
set_option maxHeartbeats 4000000 in
theorem few_ok (w : World) (A : Option Addr) (c : Nat) (fs : List Int) (hf : Rd w (.slice A fs.length c) (fs.map (Value.int .u8))) (B : Option Addr) (n d : Nat) (hd : Deeds w B n d) :
    Calls Try.prog 6 #[.slice A fs.length c, .slice B n d] w (yes w) := by
  have hfc : fs.length ≤ c ∧ c ≤ 9223372036854775807 := by
    obtain ⟨_, h1, h2, _⟩ := hf.at_
    exact ⟨h1, by simpa [maxLen] using h2⟩
  have hnd : n ≤ d ∧ d ≤ 9223372036854775807 := ⟨hd.1, by simpa [maxLen] using hd.2.1⟩
  obtain ⟨hfc1, hfc2⟩ := hfc
  obtain ⟨hnd1, hnd2⟩ := hnd
  obtain ⟨gs, hgs⟩ : ∃ gs, gs = fs.take 1000 := ⟨_, rfl⟩
  obtain ⟨m, hm⟩ : ∃ m, m = gs.length := ⟨_, rfl⟩
  have hml : m = min fs.length 1000 := by rw [hm, hgs, List.length_take]; omega
  have hm1 : m ≤ 1000 := by omega
  have hm2 : m ≤ fs.length := by omega
  have hg : Rd w (.slice A m c) (gs.map (Value.int .u8)) := by
    have := hf.take_ (i := m) (c' := c) hm2 (by omega) (Nat.le_refl _)
    rwa [← List.map_take, show fs.take m = gs from by
      rw [hgs]
      rcases Nat.le_total fs.length 1000 with h | h
      · rw [List.take_of_length_le (by omega), List.take_of_length_le h]
      · rw [hml, Nat.min_eq_right h]] at this
  have HG := Lib.hid hg
  have HD := Lib.hid hd
  have HF := Lib.hid hf
  have HM := Lib.hid hm
  have hcase : (m = fs.length ∧ fs.length ≤ 1000) ∨ (m = 1000 ∧ 1000 < fs.length) := by omega
  clear hg hd hf hgs hm hml
  rcases hcase with ⟨rfl, hc1⟩ | ⟨rfl, hc1⟩
  all_goals
    go_enter Try.func6, Try.ntmps6
    go_wp2_with fail
    refine (works_ok w).mono ?_
    rintro e w1 ⟨rfl, hk1⟩
    go_wp2_with fail
    refine (newS_ok w w1 _ gs hk1 (HG.out.kp hk1 (fun _ _ e => e)) (by rw [← HM.out]; omega)).mono ?_
    rintro e w2 ⟨t, rfl, hT2, hk2⟩
    have HT2 := Lib.hid hT2
    clear hT2 hk1 hk2
    go_wp2_with fail
    go_loopw [6] (fun i wr => ∃ (k : Nat) (L : List (List Int)), k ≤ n ∧ k ≤ 60 ∧ i = .int .i64 k ∧ lens L ≤ 1000 + 4 * k ∧ L.length ≤ 1 + 3 * k ∧ Hid (St w wr t L)) (fun i _ => n - (intOf i).toNat)
    case atStart =>
      have hm0 := HM.out
      refine ⟨0, if gs = [] then [] else [gs], Nat.zero_le _, by omega, rfl, ?_, by split <;> simp, HT2.out⟩
      split
      · simp [lens]
      · simp [lens]; omega
    case round =>
      obtain ⟨k, L, hk, hk60, rfl, hyl, hLl, HI⟩ := hrel
      by_cases hlt : k < n
      · by_cases h60 : k < 60
        · obtain ⟨b, off, d0, d1, d2, rfl, h00, h01, h10, h11, h20, h21, e0, e1, e2⟩ := HD.out.2.2 k hlt
          have hkw := HI.out.kp
          have e0' := hkw.cell e0 id
          have e1' := hkw.cell e1 id
          have e2' := hkw.cell e2 id
          have hdd : decide (k < n) = true := by simpa using hlt
          have hd6 : decide ((k : Int) < 60) = true := by simp; omega
          clear e0 e1 e2 hkw
          go_wp2_with fail
          refine (piecesS_ok w wr t L HI.out).mono ?_
          rintro e w3 ⟨rfl, rfl⟩
          go_wp2_with fail
          go_region_with (first
            | (go_at_call 17; refine (lenS_ok w wr.drew t L (HI.out.step (Kp.refl wr nob).drew) (by omega)).mono ?_; rintro e w3 ⟨rfl, rfl⟩)
            | (go_at_call 13; refine (deedN_ok wr.drew d0 d1 d2 (lens L) (by omega) h00 h01 h10 h11 h20 h21).mono ?_; rintro e w4 ⟨a, b', u4, rfl, ea, eb, hab, hbn, ho4, hk4⟩; clear ea eb; have HT4 := Lib.hid (HI.out.step (((Kp.refl wr nob).drew).trans hk4 (fun _ _ e => e))); have HO4 := Lib.hid ho4; obtain ⟨A4, c4, rfl, hc41, hc42⟩ := own_slice ho4; clear ho4 hk4))
          all_goals
            have hwl := deedW_len d2
            go_wp2_with fail
            refine (repS_ok w w4 t L HT4.out a b' _ (deedW d2) (by omega) (by omega) hab hbn HO4.out (by omega)).mono ?_
            rintro e w5 ⟨rfl, hT5, hr5⟩
            obtain ⟨L', hL'⟩ : ∃ L', L' = repP L a b' (deedW d2) := ⟨_, rfl⟩
            rw [← hL'] at hT5
            have hfu := HT4.out.full
            have hf1 : L'.length ≤ L.length + 2 := by rw [hL']; exact repP_few L a b' (deedW d2) hab hbn hfu
            have hf2 : lens L' = lens L - (b' - a) + (deedW d2).length := by rw [hL']; exact lens_repP L a b' (deedW d2) hab hbn hfu
            have hf3 : lens L' ≤ 1000 + 4 * (k + 1) := by omega
            have hf4 : L'.length ≤ 1 + 3 * (k + 1) := by omega
            have hf5 := full_len L' hT5.full
            have hpc := piecesS_ok w w5 t L' hT5
            have hln := lenS_ok w w5 t L' hT5 (by omega)
            obtain ⟨p, hp⟩ : ∃ p, p = L'.length := ⟨_, rfl⟩
            obtain ⟨q, hq⟩ : ∃ q, q = lens L' := ⟨_, rfl⟩
            rw [← hp] at hpc hf1 hf4 hf5
            rw [← hq] at hln hf2 hf3 hf5
            have hpq : (p = 0 ∧ q = 0) ∨ (0 < p ∧ 0 < q) := by
              rcases Nat.eq_zero_or_pos p with h | h
              · have : L' = [] := List.eq_nil_of_length_eq_zero (by omega)
                exact .inl ⟨h, hf5.2.1 this⟩
              · refine .inr ⟨h, by omega⟩
            have hle := hf5.1
            have HT5 := Lib.hid hT5
            have HP := Lib.hid hp
            have HQ := Lib.hid hq
            have HPC := Lib.hid hpc
            have HLN := Lib.hid hln
            clear hT5 hp hq hpc hln hf2 hf5 hfu hL' hr5
            have hc1 : ¬ ((L.length : Int) + 2 < (p : Int)) := by omega
            have hc2 : ¬ ((q : Int) < (p : Int)) := by omega
            rcases hpq with ⟨rfl, rfl⟩ | ⟨hp0, hq0⟩
            all_goals
              first | have hz1 : ((p : Int) == 0) = false := by simp; omega
                    | skip
              first | have hz2 : ((q : Int) == 0) = false := by simp; omega
                    | skip
              go_wp2_with fail
              refine HPC.out.mono ?_
              rintro e w6 ⟨rfl, rfl⟩
              go_wp2_with fail
              refine HPC.out.mono ?_
              rintro e w6 ⟨rfl, rfl⟩
              go_wp2_with fail
              refine HLN.out.mono ?_
              rintro e w6 ⟨rfl, rfl⟩
              go_wp2_with fail
              refine HPC.out.mono ?_
              rintro e w6 ⟨rfl, rfl⟩
              go_wp2_with fail
              refine HLN.out.mono ?_
              rintro e w6 ⟨rfl, rfl⟩
              go_wp2
              go_roundw
              case rel => exact ⟨k + 1, L', by omega, by omega, by go_num, by rw [← HQ.out]; exact hf3, by rw [← HP.out]; exact hf4, HT5.out⟩
              case measure => simp [intOf]; omega
        · have h60 : k = 60 := by omega
          subst h60
          have hdd : decide ((60 : Nat) < n) = true := by simpa using hlt
          have hfin : yes w (.returned (.bool true)) wr := ⟨rfl, HI.out.kp⟩
          have HFIN := Lib.hid hfin
          clear hfin
          go_wp2
          go_ret
          exact HFIN.out
      · have hkn : k = n := by omega
        subst hkn
        have hfin : yes w (.returned (.bool true)) wr := ⟨rfl, HI.out.kp⟩
        have HFIN := Lib.hid hfin
        clear hfin
        go_wp2
        go_ret
        exact HFIN.out
end Go.Proofs.Ytciandflgmmjaaa
