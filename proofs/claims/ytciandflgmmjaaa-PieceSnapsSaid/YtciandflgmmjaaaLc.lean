/- PieceSnaps: what is done to a table behind a snapshot does not change the snapshot, nor the other way round. -/
import Derived.Test.YtciandflgmmjaaaBp
import Derived.Deep.DeepFit
import Derived.Deep.CutBlock
namespace Go.Proofs.Ytciandflgmmjaaa
set_option linter.unusedVariables false
set_option linter.unusedSimpArgs false
open Go.RowKit
theorem done_bounds {f : Nat → Int × Int × Int} {L : List (List Int)} {k : Nat} (a b : Nat) (ea : a = (deedA (f k).1 (lens (done f L k))).toNat) (eb : b = (deedB (f k).1 (f k).2.1 (lens (done f L k))).toNat) : repP (done f L k) a b (deedW (f k).2.2) = done f L (k + 1) := by
  rw [ea, eb]
  rfl
set_option maxRecDepth 100000 in
set_option maxHeartbeats 8000000 in
theorem snaps_ok (w : World) (A : Option Addr) (c : Nat) (fs : List Int) (hf : Rd w (.slice A fs.length c) (fs.map (Value.int .u8))) (B : Option Addr) (n d : Nat) (hd : Deeds w B n d) (B2 : Option Addr) (n2 d2' : Nat) (hd2 : Deeds w B2 n2 d2') :
    Calls Try.prog 5 #[.slice A fs.length c, .slice B n d, .slice B2 n2 d2'] w (yes w) := by
  have hfc : fs.length ≤ c ∧ c ≤ 9223372036854775807 := by
    obtain ⟨_, h1, h2, _⟩ := hf.at_
    exact ⟨h1, by simpa [maxLen] using h2⟩
  have hnd : n ≤ d ∧ d ≤ 9223372036854775807 := ⟨hd.1, by simpa [maxLen] using hd.2.1⟩
  obtain ⟨hfc1, hfc2⟩ := hfc
  obtain ⟨hnd1, hnd2⟩ := hnd
  have hnd' : n2 ≤ d2' ∧ d2' ≤ 9223372036854775807 := ⟨hd2.1, by simpa [maxLen] using hd2.2.1⟩
  obtain ⟨hnd1', hnd2'⟩ := hnd'
  obtain ⟨f, hrw⟩ := hd2.row3
  have HRW := Lib.hid hrw
  obtain ⟨gs, hgs⟩ : ∃ gs, gs = fs.take 1000 := ⟨_, rfl⟩
  obtain ⟨m, hm⟩ : ∃ m, m = gs.length := ⟨_, rfl⟩
  have hml : m = min fs.length 1000 := by rw [hm, hgs, List.length_take]; omega
  have hm1 : m ≤ 1000 := by omega
  have hm2 : m ≤ fs.length := by omega
  have hg : Rd w (.slice A m c) (gs.map (Value.int .u8)) := by
    have := hf.take_ (i := m) (c' := c) hm2 (by omega) (Nat.le_refl _)
    rwa [← List.map_take, show fs.take m = gs from by
      rw [hgs]
      rcases Nat.le_total fs.length 1000 with h | h
      · rw [List.take_of_length_le (by omega), List.take_of_length_le h]
      · rw [hml, Nat.min_eq_right h]] at this
  have HG := Lib.hid hg
  have HD := Lib.hid hd
  have HF := Lib.hid hf
  have HM := Lib.hid hm
  have hcase : (m = fs.length ∧ fs.length ≤ 1000) ∨ (m = 1000 ∧ 1000 < fs.length) := by omega
  clear hg hd hf hgs hm hml hd2 hrw
  go_enter Try.func5, Try.ntmps5
  go_wp2_with fail
  refine (works_ok w).mono ?_
  rintro e w1 ⟨rfl, hk1⟩
  go_upto_region 3 with fail
  go_cut [0] (fun s0 wx => s0 = .slice A m c ∧ wx = w1)
  case first =>
    rcases hcase with ⟨rfl, hc1⟩ | ⟨rfl, hc1⟩
    all_goals
      go_wp2_with fail
      go_meet
      exact ⟨rfl, rfl⟩
  case rest =>
  obtain ⟨rfl, rfl⟩ := hcut
  go_wp2_with fail
  go_fit (newS_ok w wc _ gs hk1 (HG.out.kp hk1 (fun _ _ e => e)) (by rw [← HM.out]; omega))
  rintro e w2 ⟨t, rfl, hT2, hk2⟩
  have HT2 := Lib.hid hT2
  clear hT2 hk1 hk2
  go_upto_block 0 with fail
  go_cut [8, 9, 10, 11] (fun s8 s9 s10 s11 wx => ∃ L, Hid (St w wx t L) ∧ lens L ≤ 1120 ∧ L.length ≤ 91)
  case first =>
    go_wp2_with fail
    go_loopw [8, 9, 10, 11] (fun i s9 s10 s11 wr => ∃ (k : Nat) (L : List (List Int)), k ≤ n ∧ k ≤ 30 ∧ i = .int .i64 k ∧ lens L ≤ 1000 + 4 * k ∧ L.length ≤ 1 + 3 * k ∧ Hid (St w wr t L)) (fun i _ _ _ _ => n - (intOf i).toNat)
    case atStart =>
      have hm0 := HM.out
      refine ⟨0, if gs = [] then [] else [gs], Nat.zero_le _, by omega, rfl, ?_, by split <;> simp, HT2.out⟩
      split
      · simp [lens]
      · simp [lens]; omega
    case round =>
      obtain ⟨k, L, hk, hk60, rfl, hyl, hLl, HI⟩ := hrel
      by_cases hlt : k < n
      · by_cases h60 : k < 30
        · obtain ⟨b, off, d0, d1, d2, rfl, h00, h01, h10, h11, h20, h21, e0, e1, e2⟩ := HD.out.2.2 k hlt
          have hkw := HI.out.kp
          have e0' := hkw.cell e0 id
          have e1' := hkw.cell e1 id
          have e2' := hkw.cell e2 id
          have hdd : decide (k < n) = true := by simpa using hlt
          have hd6 : decide ((k : Int) < 30) = true := by simp; omega
          clear e0 e1 e2 hkw
          go_wp2_with fail
          go_region_with (first
            | (go_at_call 17; refine (lenS_ok w wr.drew t L (HI.out.step (Kp.refl wr nob).drew) (by omega)).mono ?_; rintro e w3 ⟨rfl, rfl⟩)
            | (go_at_call 13; refine (deedN_ok wr.drew d0 d1 d2 (lens L) (by omega) h00 h01 h10 h11 h20 h21).mono ?_; rintro e w4 ⟨a, b', u4, rfl, ea, eb, hab, hbn, ho4, hk4⟩; clear ea eb; have HT4 := Lib.hid (HI.out.step (((Kp.refl wr nob).drew).trans hk4 (fun _ _ e => e))); have HO4 := Lib.hid ho4; obtain ⟨A4, c4, rfl, hc41, hc42⟩ := own_slice ho4; clear ho4 hk4))
          all_goals
            have hwl := deedW_len d2
            go_wp2_with fail
            go_fit (repS_ok w w4 t L HT4.out a b' _ (deedW d2) (by omega) (by omega) hab hbn HO4.out (by omega))
            rintro e w5 ⟨rfl, hT5, hr5⟩
            have hfu := HT4.out.full
            have hf1 := repP_few L a b' (deedW d2) hab hbn hfu
            have hf2 := lens_repP L a b' (deedW d2) hab hbn hfu
            have HT5 := Lib.hid hT5
            have HF1 := Lib.hid hf1
            have HF2 := Lib.hid hf2
            clear hT5 hf1 hf2 hfu
            go_wp2
            go_roundw
            case rel => exact ⟨k + 1, _, by omega, by omega, by go_num, by rw [HF2.out]; omega, by have := HF1.out; omega, HT5.out⟩
            case measure => simp [intOf]; omega
        · have h60 : k = 30 := by omega
          subst h60
          have hdd : decide ((30 : Nat) < n) = true := by simpa using hlt
          go_wp2
          go_meet
          exact ⟨L, HI, by omega, by omega⟩
      · have hkn : k = n := by omega
        subst hkn
        go_wp2
        go_meet
        exact ⟨L, HI, by omega, by omega⟩
  case rest =>
  obtain ⟨L, HI, hl1, hl2⟩ := hcut
  have hln := lenS_ok w wc t L HI.out (by omega)
  have hsl := sliceS_all w wc t L HI.out (by omega)
  obtain ⟨Z, hZ⟩ : ∃ Z, Z = L.flatten := ⟨_, rfl⟩
  have hzl : lens L = Z.length := by rw [hZ]; rfl
  rw [hzl] at hln hsl
  rw [← hZ] at hsl
  have hzb : Z.length ≤ 1120 := by omega
  have HLN := Lib.hid hln
  have HSL := Lib.hid hsl
  have HZ := Lib.hid hZ
  have HZL := Lib.hid hzl
  clear hln hsl hZ hzl
  go_wp2_with fail
  go_fit HLN.out
  rintro e w3 ⟨rfl, rfl⟩
  go_wp2_with fail
  go_fit HSL.out
  rintro e w3 ⟨u3, rfl, ho3, hk3⟩
  have HT3 := Lib.hid (HI.out.step hk3)
  have HO3 := Lib.hid ho3
  obtain ⟨A3, c3, rfl, hc31, hc32⟩ := own_slice ho3
  clear ho3 hk3 HI HLN HSL
  go_wp2_with fail
  go_fit (snap1_ok w w3 t L HT3.out (by omega))
  rintro e w4 ⟨s, rfl, hS4, hk4, hk34⟩
  have HS4 := Lib.hid hS4
  have HO4 := Lib.hid (own_kp HO3.out hk34 (fun _ _ e => e))
  clear hS4 hk34 HO3 HT3
  go_wp2_with fail
  go_fit (snap2_ok w w4 t s L HS4.out hk4 (by omega))
  rintro e w5 ⟨u, rfl, hT5, hk45⟩
  have HT5 := Lib.hid hT5
  have HO5 := Lib.hid (own_kp HO4.out hk45 (fun _ _ e => e))
  clear hT5 hk45 HO4 HS4 hk4
  go_upto_block 2 with fail
  go_cut [16, 17, 18, 19, 20, 21] (fun _ _ _ _ _ _ wx => ∃ k, k ≤ n2 ∧ k ≤ 30 ∧ (k = n2 ∨ k = 30) ∧ lens (done f L k) ≤ 1240 ∧ (done f L k).length ≤ 181 ∧ Hid (St3 w wx t s u (done f L k) L L) ∧ Hid (wx.ownsRow wc.heap.size 5 1 (.slice A3 Z.length c3) Z.length (Z.map (Value.int .u8))))
  case first =>
    go_wp2_with fail
    go_loopw [16, 17, 18, 19, 20, 21] (fun i _ _ _ _ _ wr => ∃ (k : Nat), k ≤ n2 ∧ k ≤ 30 ∧ i = .int .i64 k ∧ lens (done f L k) ≤ 1120 + 4 * k ∧ (done f L k).length ≤ 91 + 3 * k ∧ Hid (St3 w wr t s u (done f L k) L L) ∧ Hid (wr.ownsRow wc.heap.size 5 1 (.slice A3 Z.length c3) Z.length (Z.map (Value.int .u8)))) (fun i _ _ _ _ _ _ => n2 - (intOf i).toNat)
    case atStart => exact ⟨0, Nat.zero_le _, by omega, rfl, by rw [show done f L 0 = L from rfl]; omega, by rw [show done f L 0 = L from rfl]; omega, HT5.out, HO5.out⟩
    case round =>
      obtain ⟨k, hk, hk60, rfl, hyl, hLl, HI, HR⟩ := hrel
      by_cases hlt : k < n2
      · by_cases h60 : k < 30
        · obtain ⟨b, off, rfl, h00, h01, h10, h11, h20, h21, e0, e1, e2⟩ := HRW.out.2.2 k hlt
          obtain ⟨d0, hd0⟩ : ∃ d0, d0 = (f k).1 := ⟨_, rfl⟩
          obtain ⟨d1, hd1⟩ : ∃ d1, d1 = (f k).2.1 := ⟨_, rfl⟩
          obtain ⟨d2, hd2⟩ : ∃ d2, d2 = (f k).2.2 := ⟨_, rfl⟩
          rw [← hd0] at h00 h01 e0
          rw [← hd1] at h10 h11 e1
          rw [← hd2] at h20 h21 e2
          obtain ⟨M, hM⟩ : ∃ M, M = done f L k := ⟨_, rfl⟩
          have hnx : ∀ a b' : Nat, a = (deedA d0 (lens M)).toNat → b' = (deedB d0 d1 (lens M)).toNat → repP M a b' (deedW d2) = done f L (k + 1) := by
            intro a b' ea eb
            rw [hd0, hM] at ea
            rw [hd0, hd1, hM] at eb
            rw [hM, hd2]
            exact done_bounds a b' ea eb
          have HNX := Lib.hid hnx
          rw [← hM] at hyl hLl HI
          have hkw := HI.out.kp
          have e0' := hkw.cell e0 id
          have e1' := hkw.cell e1 id
          have e2' := hkw.cell e2 id
          have hdd : decide (k < n2) = true := by simpa using hlt
          have hd6 : decide ((k : Int) < 30) = true := by simp; omega
          clear e0 e1 e2 hkw hd0 hd1 hd2 hM hnx
          go_wp2_with fail
          go_region_with (first
            | (go_at_call 17; refine (lenS_ok w wr.drew t M (HI.out.one.step (Kp.refl wr nob).drew) (by omega)).mono ?_; rintro e w3 ⟨rfl, rfl⟩)
            | (go_at_call 13; refine (deedN_ok wr.drew d0 d1 d2 (lens M) (by omega) h00 h01 h10 h11 h20 h21).mono ?_; rintro e w7 ⟨a, b', u4, rfl, ea, eb, hab, hbn, ho4, hk4⟩; have HEQ := Lib.hid (HNX.out a b' ea eb); clear ea eb; have HT7 := Lib.hid (HI.out.step (((Kp.refl wr nob).drew).trans hk4 (fun _ _ e => e))); have HR7 := Lib.hid (own_kp HR.out (((Kp.refl wr nob).drew).trans hk4 (fun _ _ e => e)) (fun _ _ e => e)); have HO7 := Lib.hid ho4; obtain ⟨A7, c7, rfl, hc71, hc72⟩ := own_slice ho4; clear ho4 hk4))
          all_goals
            have hwl := deedW_len d2
            go_wp2_with fail
            go_fit (rep3_ok w w7 t s u M L L HT7.out a b' _ (deedW d2) (by omega) (by omega) hab hbn HO7.out (by omega))
            rintro e w8 ⟨rfl, hT8, hr8⟩
            have hfu := HT7.out.one.full
            have hf1 := repP_few M a b' (deedW d2) hab hbn hfu
            have hf2 := lens_repP M a b' (deedW d2) hab hbn hfu
            rw [HEQ.out] at hT8 hf1 hf2
            have HT8 := Lib.hid hT8
            have HF1 := Lib.hid hf1
            have HF2 := Lib.hid hf2
            have HR8 := Lib.hid (hr8 _ _ _ _ HR7.out)
            have hln8 := lenS_ok w w8 s L HT8.out.two (by omega)
            have hsl8 := sliceS_all w w8 s L HT8.out.two (by omega)
            rw [HZL.out] at hln8 hsl8
            rw [← HZ.out] at hsl8
            have HLN8 := Lib.hid hln8
            have HSL8 := Lib.hid hsl8
            clear hT8 hf1 hf2 hfu hr8 hln8 hsl8
            go_wp2_with fail
            go_fit HLN8.out
            rintro e w9 ⟨rfl, rfl⟩
            go_wp2_with fail
            go_fit HSL8.out
            rintro e w9 ⟨u9, rfl, ho9, hk9⟩
            have HT9 := Lib.hid (HT8.out.step hk9)
            have HR9 := Lib.hid (own_kp HR8.out hk9 (fun _ _ e => e))
            have heq := eq_okB w9 _ _ Z Z (Rd.of_own ho9) (Rd.of_own HR9.out)
            rw [decide_eq_true rfl] at heq
            have HEQ9 := Lib.hid heq
            obtain ⟨A9, c9, rfl, hc91, hc92⟩ := own_slice ho9
            clear heq ho9 hk9
            go_wp2_with fail
            go_fit HEQ9.out
            rintro e w10 ⟨rfl, hd10⟩
            have hk10 := hd10.kp nob
            have HT10 := Lib.hid (HT9.out.step hk10)
            have HR10 := Lib.hid (own_kp HR9.out hk10 (fun _ _ e => e))
            clear hk10 hd10
            go_wp2
            go_roundw
            case rel => exact ⟨k + 1, by omega, by omega, by go_num, by rw [HF2.out]; omega, by have := HF1.out; omega, HT10.out, HR10.out⟩
            case measure => simp [intOf]; omega
        · have h60 : k = 30 := by omega
          subst h60
          have hdd : decide ((30 : Nat) < n2) = true := by simpa using hlt
          go_wp2
          go_meet
          exact ⟨30, by omega, by omega, by omega, by omega, by omega, HI, HR⟩
      · have hkn : k = n2 := by omega
        subst hkn
        go_wp2
        go_meet
        exact ⟨k, by omega, by omega, by omega, by omega, by omega, HI, HR⟩
  case rest =>
  obtain ⟨k1, hk1, hk2, hk3, hq1, hq2, HI, HR⟩ := hcut
  obtain ⟨M, hM⟩ : ∃ M, M = done f L k1 := ⟨_, rfl⟩
  rw [← hM] at hq1 hq2 HI
  have HM1 := Lib.hid hM
  clear hM
  obtain ⟨w6, hw6⟩ : ∃ w6, w6 = wc := ⟨wc, rfl⟩
  subst hw6
  have hln := lenS_ok w w6 t M HI.out.one (by omega)
  have hsl := sliceS_all w w6 t M HI.out.one (by omega)
  obtain ⟨Y, hY⟩ : ∃ Y, Y = M.flatten := ⟨_, rfl⟩
  have hyl : lens M = Y.length := by rw [hY]; rfl
  rw [hyl] at hln hsl
  rw [← hY] at hsl
  have hyb : Y.length ≤ 1240 := by omega
  have HLN := Lib.hid hln
  have HSL := Lib.hid hsl
  have HY := Lib.hid hY
  have HYL := Lib.hid hyl
  clear hln hsl hY hyl HR
  go_wp2_with fail
  go_fit HLN.out
  rintro e w7 ⟨rfl, rfl⟩
  go_wp2_with fail
  go_fit HSL.out
  rintro e w7 ⟨u7, rfl, ho7, hk7⟩
  have HT7 := Lib.hid (HI.out.step hk7).turn.turn
  have HO7 := Lib.hid ho7
  obtain ⟨A7, c7, rfl, hc71, hc72⟩ := own_slice ho7
  clear ho7 hk7 HI HLN HSL
  go_upto_block 4 with fail
  go_cut [24, 25, 26, 27] (fun _ _ _ _ wx => ∃ k, k ≤ n2 ∧ k ≤ 30 ∧ (k = n2 ∨ k = 30) ∧ lens (done f L k) ≤ 1240 ∧ Hid (St3 w wx u t s (done f L k) M L) ∧ Hid (wx.ownsRow w6.heap.size 5 1 (.slice A7 Y.length c7) Y.length (Y.map (Value.int .u8))))
  case first =>
    go_wp2_with fail
    go_loopw [24, 25, 26, 27] (fun i _ _ _ wr => ∃ (k : Nat), k ≤ n2 ∧ k ≤ 30 ∧ i = .int .i64 k ∧ lens (done f L k) ≤ 1120 + 4 * k ∧ (done f L k).length ≤ 91 + 3 * k ∧ Hid (St3 w wr u t s (done f L k) M L) ∧ Hid (wr.ownsRow w6.heap.size 5 1 (.slice A7 Y.length c7) Y.length (Y.map (Value.int .u8)))) (fun i _ _ _ _ => n2 - (intOf i).toNat)
    case atStart => exact ⟨0, Nat.zero_le _, by omega, rfl, by rw [show done f L 0 = L from rfl]; omega, by rw [show done f L 0 = L from rfl]; omega, HT7.out, HO7.out⟩
    case round =>
      obtain ⟨k, hk, hk60, rfl, hyl, hLl, HI, HR⟩ := hrel
      by_cases hlt : k < n2
      · by_cases h60 : k < 30
        · obtain ⟨b, off, rfl, h00, h01, h10, h11, h20, h21, e0, e1, e2⟩ := HRW.out.2.2 k hlt
          obtain ⟨d0, hd0⟩ : ∃ d0, d0 = (f k).1 := ⟨_, rfl⟩
          obtain ⟨d1, hd1⟩ : ∃ d1, d1 = (f k).2.1 := ⟨_, rfl⟩
          obtain ⟨d2, hd2⟩ : ∃ d2, d2 = (f k).2.2 := ⟨_, rfl⟩
          rw [← hd0] at h00 h01 e0
          rw [← hd1] at h10 h11 e1
          rw [← hd2] at h20 h21 e2
          obtain ⟨D, hD⟩ : ∃ D, D = done f L k := ⟨_, rfl⟩
          have hnx : ∀ a b' : Nat, a = (deedA d0 (lens D)).toNat → b' = (deedB d0 d1 (lens D)).toNat → repP D a b' (deedW d2) = done f L (k + 1) := by
            intro a b' ea eb
            rw [hd0, hD] at ea
            rw [hd0, hd1, hD] at eb
            rw [hD, hd2]
            exact done_bounds a b' ea eb
          have HNX := Lib.hid hnx
          rw [← hD] at hyl hLl HI
          have hkw := HI.out.kp
          have e0' := hkw.cell e0 id
          have e1' := hkw.cell e1 id
          have e2' := hkw.cell e2 id
          have hdd : decide (k < n2) = true := by simpa using hlt
          have hd6 : decide ((k : Int) < 30) = true := by simp; omega
          clear e0 e1 e2 hkw hd0 hd1 hd2 hD hnx
          go_wp2_with fail
          go_region_with (first
            | (go_at_call 17; refine (lenS_ok w wr.drew u D (HI.out.one.step (Kp.refl wr nob).drew) (by omega)).mono ?_; rintro e w3 ⟨rfl, rfl⟩)
            | (go_at_call 13; refine (deedN_ok wr.drew d0 d1 d2 (lens D) (by omega) h00 h01 h10 h11 h20 h21).mono ?_; rintro e w8 ⟨a, b', u4, rfl, ea, eb, hab, hbn, ho4, hk4⟩; have HEQ := Lib.hid (HNX.out a b' ea eb); clear ea eb; have HT8 := Lib.hid (HI.out.step (((Kp.refl wr nob).drew).trans hk4 (fun _ _ e => e))); have HR8 := Lib.hid (own_kp HR.out (((Kp.refl wr nob).drew).trans hk4 (fun _ _ e => e)) (fun _ _ e => e)); have HO8 := Lib.hid ho4; obtain ⟨A8, c8, rfl, hc81, hc82⟩ := own_slice ho4; clear ho4 hk4))
          all_goals
            have hwl := deedW_len d2
            go_wp2_with fail
            go_fit (rep3_ok w w8 u t s D M L HT8.out a b' _ (deedW d2) (by omega) (by omega) hab hbn HO8.out (by omega))
            rintro e w9 ⟨rfl, hT9, hr9⟩
            have hfu := HT8.out.one.full
            have hf1 := repP_few D a b' (deedW d2) hab hbn hfu
            have hf2 := lens_repP D a b' (deedW d2) hab hbn hfu
            rw [HEQ.out] at hT9 hf1 hf2
            have HT9 := Lib.hid hT9
            have HF1 := Lib.hid hf1
            have HF2 := Lib.hid hf2
            have HR9 := Lib.hid (hr9 _ _ _ _ HR8.out)
            clear hT9 hf1 hf2 hfu hr9
            go_wp2
            go_roundw
            case rel => exact ⟨k + 1, by omega, by omega, by go_num, by rw [HF2.out]; omega, by have := HF1.out; omega, HT9.out, HR9.out⟩
            case measure => simp [intOf]; omega
        · have h60 : k = 30 := by omega
          subst h60
          have hdd : decide ((30 : Nat) < n2) = true := by simpa using hlt
          go_wp2
          go_meet
          exact ⟨30, by omega, by omega, by omega, by omega, HI, HR⟩
      · have hkn : k = n2 := by omega
        subst hkn
        go_wp2
        go_meet
        exact ⟨k, by omega, by omega, by omega, by omega, HI, HR⟩
  case rest =>
  obtain ⟨k2, hm1', hm2', hm3', hq1', HI, HR⟩ := hcut
  obtain rfl : k2 = k1 := by omega
  rw [← HM1.out] at HI
  obtain ⟨w8, hw8⟩ : ∃ w8, w8 = wc := ⟨wc, rfl⟩
  subst hw8
  have hln := lenS_ok w w8 t M HI.out.two (by omega)
  have hsl := sliceS_all w w8 t M HI.out.two (by omega)
  rw [HYL.out] at hln hsl
  rw [← HY.out] at hsl
  have HLN := Lib.hid hln
  have HSL := Lib.hid hsl
  clear hln hsl
  go_wp2_with fail
  go_fit HLN.out
  rintro e w9 ⟨rfl, rfl⟩
  go_wp2_with fail
  go_fit HSL.out
  rintro e w9 ⟨u9, rfl, ho9, hk9⟩
  have HT9 := Lib.hid (HI.out.step hk9)
  have HR9 := Lib.hid (own_kp HR.out hk9 (fun _ _ e => e))
  have HO9 := Lib.hid ho9
  obtain ⟨A9, c9, rfl, hc91, hc92⟩ := own_slice ho9
  have hln := lenS_ok w w9 u M HT9.out.one (by omega)
  have hsl := sliceS_all w w9 u M HT9.out.one (by omega)
  rw [HYL.out] at hln hsl
  rw [← HY.out] at hsl
  clear HLN HSL
  have HLN := Lib.hid hln
  have HSL := Lib.hid hsl
  clear hln hsl ho9 hk9
  go_wp2_with fail
  go_fit HLN.out
  rintro e w10 ⟨rfl, rfl⟩
  go_wp2_with fail
  go_fit HSL.out
  rintro e w10 ⟨u10, rfl, ho10, hk10⟩
  have HT10 := Lib.hid (HT9.out.step hk10)
  have HR10 := Lib.hid (own_kp HR9.out hk10 (fun _ _ e => e))
  have HO10 := Lib.hid (own_kp HO9.out hk10 (fun _ _ e => e))
  have HP10 := Lib.hid ho10
  obtain ⟨A10, c10, rfl, hc101, hc102⟩ := own_slice ho10
  have heq := eq_okB w10 _ _ Y Y (Rd.of_own HR10.out) (Rd.of_own HO10.out)
  rw [decide_eq_true rfl] at heq
  have HEQ := Lib.hid heq
  clear heq ho10 hk10
  go_wp2_with fail
  go_fit HEQ.out
  rintro e w11 ⟨rfl, hd11⟩
  have hk11 := hd11.kp nob
  have heq := eq_okB w11 _ _ Y Y (Rd.of_own (own_kp HP10.out hk11 (fun _ _ e => e))) (Rd.of_own (own_kp HR10.out hk11 (fun _ _ e => e)))
  rw [decide_eq_true rfl] at heq
  have HEQ2 := Lib.hid heq
  have HT11 := Lib.hid (HT10.out.step hk11)
  clear heq hk11 hd11
  go_wp2_with fail
  go_fit HEQ2.out
  rintro e w12 ⟨rfl, hd12⟩
  have hfin : yes w (.returned (.bool true)) w12 := ⟨rfl, HT11.out.kp.trans (hd12.kp nob) (fun _ _ e => e)⟩
  have HFIN := Lib.hid hfin
  clear hfin hd12
  go_wp2
  go_ret
  exact HFIN.out
end Go.Proofs.Ytciandflgmmjaaa
