/- PieceList: a table's elements are as those of a list to which the same is done. -/
import Derived.Test.YtciandflgmmjaaaBo
namespace Go.Proofs.Ytciandflgmmjaaa
open Go.RowKit
set_option maxHeartbeats 4000000 in
theorem list_ok (w : World) (A : Option Addr) (c : Nat) (fs : List Int) (hf : Rd w (.slice A fs.length c) (fs.map (Value.int .u8))) (B : Option Addr) (n d : Nat) (hd : Deeds w B n d) :
    Calls Try.prog 3 #[.slice A fs.length c, .slice B n d] w (yes w) := by
  have hfc : fs.length ≤ c ∧ c ≤ 9223372036854775807 := by
    obtain ⟨_, h1, h2, _⟩ := hf.at_
    exact ⟨h1, by simpa [maxLen] using h2⟩
  have hnd : n ≤ d ∧ d ≤ 9223372036854775807 := ⟨hd.1, by simpa [maxLen] using hd.2.1⟩
  obtain ⟨hfc1, hfc2⟩ := hfc
  obtain ⟨hnd1, hnd2⟩ := hnd
  obtain ⟨gs, hgs⟩ : ∃ gs, gs = fs.take 1000 := ⟨_, rfl⟩
  obtain ⟨m, hm⟩ : ∃ m, m = gs.length := ⟨_, rfl⟩
  have hml : m = min fs.length 1000 := by rw [hm, hgs, List.length_take]; omega
  have hm1 : m ≤ 1000 := by omega
  have hm2 : m ≤ fs.length := by omega
  have hg : Rd w (.slice A m c) (gs.map (Value.int .u8)) := by
    have := hf.take_ (i := m) (c' := c) hm2 (by omega) (Nat.le_refl _)
    rwa [← List.map_take, show fs.take m = gs from by
      rw [hgs]
      rcases Nat.le_total fs.length 1000 with h | h
      · rw [List.take_of_length_le (by omega), List.take_of_length_le h]
      · rw [hml, Nat.min_eq_right h]] at this
  have HG := Lib.hid hg
  have HD := Lib.hid hd
  have HF := Lib.hid hf
  have HM := Lib.hid hm
  have hcase : (m = fs.length ∧ fs.length ≤ 1000) ∨ (m = 1000 ∧ 1000 < fs.length) := by omega
  clear hg hd hf hgs hm hml
  rcases hcase with ⟨rfl, hc1⟩ | ⟨rfl, hc1⟩
  all_goals
    go_enter Try.func3, Try.ntmps3
    go_wp2_with fail
    refine (works_ok w).mono ?_
    rintro e w1 ⟨rfl, hk1⟩
    go_wp2_with fail
    refine (newS_ok w w1 _ gs hk1 (HG.out.kp hk1 (fun _ _ e => e)) (by rw [← HM.out]; omega)).mono ?_
    rintro e w2 ⟨t, rfl, hT2, hk2⟩
    have HT2 := Lib.hid hT2
    clear hT2
    go_wp2_with fail
    refine (copy_okB w2 _ _ (HG.out.kp HT2.out.kp (fun _ _ e => e)) (one_intsB gs) (by rw [List.length_map, ← HM.out]; omega)).mono ?_
    rintro e w3 ⟨u3, rfl, ho3, hk3⟩
    have HT3 := Lib.hid (HT2.out.step hk3)
    have hs2 := HT2.out.kp.size
    obtain ⟨A3, c3, rfl, hc31, hc32⟩ := own_slice ho3
    rw [List.length_map] at ho3 hc31
    have HO3 := Lib.hid (own_base_le ho3 hs2)
    clear ho3 HT2 hk2 hk1 hk3
    go_wp2_with fail
    go_loopw [6, 7] (fun l i wr => ∃ (k : Nat) (ys : List Int) (A' : Option Addr) (c' : Nat) (L : List (List Int)), k ≤ n ∧ k ≤ 60 ∧ i = .int .i64 k ∧ l = .slice A' ys.length c' ∧ ys.length ≤ 1000 + 4 * k ∧ L.length ≤ 1 + 3 * k ∧ ys.length ≤ c' ∧ c' ≤ 9223372036854775807 ∧
        Hid (wr.ownsRow w.heap.size 5 1 (.slice A' ys.length c') ys.length (ys.map (Value.int .u8)) ∧ St w wr t L ∧ L.flatten = ys)) (fun _ i _ => n - (intOf i).toNat)
    case atStart =>
      refine ⟨0, gs, A3, c3, if gs = [] then [] else [gs], Nat.zero_le _, by omega, rfl, rfl, by have := HM.out; omega, by split <;> simp, by omega, by omega, HO3.out, HT3.out, ?_⟩
      split
      · rename_i h; rw [h]; rfl
      · simp
    case round =>
      obtain ⟨k, ys, A', c', L, hk, hk60, rfl, rfl, hyl, hLl, hyc, hcc, HI⟩ := hrel
      by_cases hlt : k < n
      · by_cases h60 : k < 60
        · obtain ⟨b, off, d0, d1, d2, rfl, h00, h01, h10, h11, h20, h21, e0, e1, e2⟩ := HD.out.2.2 k hlt
          have hkw := HI.out.2.1.kp
          have e0' := hkw.cell e0 id
          have e1' := hkw.cell e1 id
          have e2' := hkw.cell e2 id
          have hdd : decide (k < n) = true := by simpa using hlt
          have hd6 : decide ((k : Int) < 60) = true := by simp; omega
          clear e0 e1 e2 hkw
          go_wp2_with fail
          refine (deedN_ok wr d0 d1 d2 ys.length (by omega) h00 h01 h10 h11 h20 h21).mono ?_
          rintro e w4 ⟨a, b', u4, rfl, ea, eb, hab, hbn, ho4, hk4⟩
          clear ea eb
          have hsz4 := HI.out.2.1.kp.size
          have HT4 := Lib.hid (HI.out.2.1.step hk4)
          have HL4 := Lib.hid (own_kp HI.out.1 hk4 (fun _ _ e => e))
          have HFL := Lib.hid HI.out.2.2
          have hlen : lens L = ys.length := by rw [← HFL.out]; rfl
          have HLEN := Lib.hid hlen
          have HFULL := Lib.hid HI.out.2.1.full
          have HO4 := Lib.hid ho4
          have hwl := deedW_len d2
          obtain ⟨A4, c4, rfl, hc41, hc42⟩ := own_slice ho4
          clear hlen ho4 hk4 HI
          go_wp2_with fail
          refine (repS_ok w w4 t L HT4.out a b' _ (deedW d2) (by rw [HLEN.out]; omega) (by omega) hab (by rw [HLEN.out]; exact hbn) HO4.out (by omega)).mono ?_
          rintro e w5 ⟨rfl, hT5, hr5⟩
          have HT5 := Lib.hid hT5
          have HL5 := Lib.hid (hr5 _ _ _ _ HL4.out)
          have HO5 := Lib.hid (hr5 _ _ _ _ HO4.out)
          clear hT5 hr5 HT4 HL4 HO4
          have ha : a ≤ ys.length := by omega
          have hac : a ≤ c' := by omega
          have hbc : b' ≤ c' := by omega
          have ha1 : (a : Int) ≤ (ys.length : Int) := by omega
          have hb1 : (b' : Int) ≤ (ys.length : Int) := by omega
          have hab1 : (a : Int) ≤ (b' : Int) := by omega
          have hall : ∀ w6 u6, w6.ownsRow w5.drew.heap.size 5 1 u6 (ys.take a).length ((ys.take a).map (Value.int .u8)) → Kp w5.drew w6 nob → ∃ v1 w7 v2 w8, (Builtin.append_ #[22, 22] 22 #[u6, .slice A4 (deedW d2).length c4]).run Try.prog w6 = .ok v1 w7 ∧
              (Builtin.append_ #[22, 22] 22 #[v1, .slice (if c' = b' then A' else A'.map (·.add b')) (ys.length - b') (c' - b')]).run Try.prog w7 = .ok v2 w8 ∧ ∃ zs : List Int, zs = ys.take a ++ deedW d2 ++ ys.drop b' ∧ zs.length = a + (deedW d2).length + (ys.length - b') ∧ w8.ownsRow w.heap.size 5 1 v2 zs.length (zs.map (Value.int .u8)) ∧ St w w8 t (repP L a b' (deedW d2)) ∧ (repP L a b' (deedW d2)).flatten = zs := by
            intro w6 u6 ho6 hk6
            have hk56 : Kp w5 w6 nob := ((Kp.refl w5 nob).drew).trans hk6 (fun _ _ e => e)
            have hlt5 : ∀ g, (Value.slice A' ys.length c').ownBlock = some g → g < w5.heap.size := fun g hg => by
              obtain ⟨_, cur, hc⟩ := own_ty HL5.out g hg
              exact (Array.getElem?_eq_some_iff.1 hc).1
            have htail := ((Rd.of_own HL5.out).kp hk56 (fun _ _ e => e)).drop_ (i := b') hbn
            rw [← List.map_drop] at htail
            obtain ⟨v1, w7, v2, w8, r1, r2, o8, k8⟩ := two_appends w6 w.heap.size u6 _ (own_base_le ho6 (by have := HT5.out.kp.size; simpa using this)) (by have := HT5.out.kp.size; have := hk56.size; omega) _ (deedW d2) ((Rd.of_own HO5.out).kp hk56 (fun _ _ e => e)) _ (ys.drop b') htail (fun g hg e => by
                obtain ⟨h1, _⟩ := own_ty ho6 g e
                have hg2 : (Value.slice A' ys.length c').ownBlock = some g := by
                  revert hg
                  rcases A' with _ | ⟨g', o', fl⟩
                  · split <;> simp [Value.ownBlock]
                  · split
                    · exact id
                    · simp only [Option.map_some, Addr.add]
                      split <;> simp [Value.ownBlock]
                have := hlt5 g hg2
                simp at h1
                omega) (by rw [List.length_take, List.length_drop]; omega)
            refine ⟨v1, w7, v2, w8, r1, r2, _, rfl, ?_, o8, HT5.out.step (hk56.trans k8 (fun k hk e => ?_)), ?_⟩
            · rw [List.length_append, List.length_append, List.length_take, List.length_drop]; omega
            · obtain ⟨h1, _⟩ := own_ty ho6 k e
              simp at h1
              omega
            · rw [(repP_law L a b' (deedW d2) hab (by rw [HLEN.out]; exact hbn) HFULL.out).1, HFL.out]
          have HALL := Lib.hid hall
          have hcopy : Rd w5.drew (.slice A' a c') ((ys.take a).map (Value.int .u8)) := by
            have := (Rd.of_own HL5.out).drew.take_ (i := a) (c' := c') ha hac (Nat.le_refl _)
            rwa [← List.map_take] at this
          have HCOPY := Lib.hid hcopy
          have hta : (ys.take a).length = a := by rw [List.length_take]; omega
          have HTA := Lib.hid hta
          have hrl := repP_law L a b' (deedW d2) hab (by rw [HLEN.out]; exact hbn) HFULL.out
          have hrl2 := hrl.2.1
          clear hall hcopy hta hrl
          go_wp2_with fail
          go_region_law (first
            | (refine step_append_run _ rfl (.tmp 54) (.tmp 55) 22 22 rfl _ _ (by simp [Act.eval, Act.put]) (by simp [Act.eval, Act.put]) HR1.out ?_)
            | (refine step_append_run _ rfl (.tmp 56) (.tmp 59) 22 22 rfl _ _ (by simp [Act.eval, Act.put]) (by simp [Act.eval, Act.put]) HR2.out ?_)
            | (go_simp; go_at_call 12; refine (copy_okB w5.drew _ _ HCOPY.out (one_intsB _) (by rw [List.length_map, HTA.out]; omega)).mono ?_; rintro e w6 ⟨u6, rfl, ho6, hk6⟩; rw [List.length_map] at ho6; obtain ⟨v1, w7, v2, w8, r1, r2, zs, ez, hzl, o8, hT8, hf8⟩ := HALL.out w6 u6 ho6 hk6; clear ez; have hzb : zs.length ≤ 1000 + 4 * (k + 1) := (by omega); clear hzl; rw [HTA.out] at ho6; obtain ⟨A6, c6, rfl, _, _⟩ := own_slice ho6; obtain ⟨A8, c8, rfl, hc81, hc82⟩ := own_slice o8; have HR1 := Lib.hid r1; have HR2 := Lib.hid r2; have HL8 := Lib.hid o8; have HT8 := Lib.hid hT8; have HF8 := Lib.hid hf8; clear r1 r2 o8 hT8 hf8 ho6 hk6))
          clear HR1 HR2
          generalize hgen : (if c' = b' then A' else Option.map (fun x => x.add b') A') = TV
          clear hgen
          have hlz : lens (repP L a b' (deedW d2)) = zs.length := by rw [← HF8.out]; rfl
          have hsl := sliceS_all w w8 t _ HT8.out (by omega)
          rw [HF8.out, hlz] at hsl
          have HSL := Lib.hid hsl
          have HLZ := Lib.hid hlz
          clear hsl hlz
          go_wp2_with fail
          refine HSL.out.mono ?_
          rintro e w9 ⟨u9, rfl, ho9, hk9⟩
          obtain ⟨A9, c9, rfl, hc91, hc92⟩ := own_slice ho9
          have HT9 := Lib.hid (HT8.out.step hk9)
          have HL9 := Lib.hid (own_kp HL8.out hk9 (fun _ _ e => e))
          have HO9 := Lib.hid ho9
          have heq := eq_okB w9 _ _ zs zs (Rd.of_own HO9.out) (Rd.of_own HL9.out)
          rw [decide_eq_true rfl] at heq
          have HEQ := Lib.hid heq
          clear HT8 HL8 ho9 heq
          go_wp2_with fail
          refine HEQ.out.mono ?_
          rintro e w10 ⟨rfl, hdn⟩
          have hk10 := hdn.kp nob
          have HT10 := Lib.hid (HT9.out.step hk10)
          have HL10 := Lib.hid (own_kp HL9.out hk10 (fun _ _ e => e))
          have hle := lenS_ok w w10 t _ HT10.out (by rw [HLZ.out]; omega)
          rw [HLZ.out] at hle
          have HLE := Lib.hid hle
          have hne : ((zs.length : Int) == (zs.length : Int)) = true := by simp
          clear hle
          go_wp2_with fail
          refine HLE.out.mono ?_
          rintro e w11 ⟨rfl, rfl⟩
          go_wp2
          go_roundw
          case rel => exact ⟨k + 1, zs, A8, c8, repP L a b' (deedW d2), by omega, by omega, by go_num, rfl, by omega, by omega, hc81, hc82, ⟨HL10.out, HT10.out, HF8.out⟩⟩
          case measure => simp [intOf]; omega
        · have h60 : k = 60 := by omega
          subst h60
          have hdd : decide ((60 : Nat) < n) = true := by simpa using hlt
          have hfin : yes w (.returned (.bool true)) wr := ⟨rfl, HI.out.2.1.kp⟩
          have HFIN := Lib.hid hfin
          clear hfin
          go_wp2
          go_ret
          exact HFIN.out
      · have hkn : k = n := by omega
        subst hkn
        have hfin : yes w (.returned (.bool true)) wr := ⟨rfl, HI.out.2.1.kp⟩
        have HFIN := Lib.hid hfin
        clear hfin
        go_wp2
        go_ret
        exact HFIN.out
end Go.Proofs.Ytciandflgmmjaaa
