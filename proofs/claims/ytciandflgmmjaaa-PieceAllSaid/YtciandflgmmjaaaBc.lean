/- Bring: a number brought to one from 0 to n - 1. -/
import Derived.Test.YtciandflgmmjaaaRows
import Derived.Test.YtciandflgmmjaaaWb
namespace Go.Proofs.Ytciandflgmmjaaa
set_option linter.unusedVariables false
set_option linter.unusedSimpArgs false
open Go.RowKit
def bring (i n : Int) : Int := if n ≤ 0 then 0 else i % n
theorem bring_range (i n : Int) (h : 0 < n) : 0 ≤ bring i n ∧ bring i n < n := by
  unfold bring
  rw [if_neg (by omega)]
  exact ⟨Int.emod_nonneg _ (by omega), Int.emod_lt_of_pos _ h⟩
theorem bring_nonneg (i n : Int) : 0 ≤ bring i n := by
  unfold bring
  split
  · omega
  · exact Int.emod_nonneg _ (by omega)
theorem tmod_bring (i n : Int) (h : 0 < n) : i.tmod n = if 0 ≤ i ∨ i % n = 0 then i % n else i % n - n := by
  rw [Int.tmod_eq_emod]
  by_cases h1 : 0 ≤ i
  · simp [h1]
  · have h3 : (n.natAbs : Int) = n := by omega
    by_cases h2 : n ∣ i
    · simp [h2, Int.emod_eq_zero_of_dvd h2]
    · have h4 : i % n ≠ 0 := fun e => h2 (Int.dvd_of_emod_eq_zero e)
      simp [h1, h2, h4, h3]
set_option maxHeartbeats 400000 in
theorem bring_ok (i n : Int) (w : World) (h0 : -9223372036854775808 ≤ i) (h1 : i ≤ 9223372036854775807) (h2 : n ≤ 9223372036854775807) :
    Calls Try.prog 21 #[.int .i64 i, .int .i64 n] w fun e w' => e = .returned (.int .i64 (bring i n)) ∧ w = w' := by
  by_cases hn : n ≤ 0
  · go_enter Try.func21, Try.ntmps21
    go_wp2
    go_ret
    exact ⟨by simp [bring, hn], rfl⟩
  · have hn' : 0 < n := by omega
    have ht := tmod_bring i n hn'
    have hr0 := Int.emod_nonneg i (show n ≠ 0 by omega)
    have hr1 := Int.emod_lt_of_pos i hn'
    have hb : bring i n = i % n := by unfold bring; rw [if_neg hn]
    rw [hb]
    clear hb
    by_cases hi : 0 ≤ i ∨ i % n = 0
    · rw [if_pos hi] at ht
      have hlt : ¬ (i.tmod n < 0) := by omega
      have hw : wrap64 (i.tmod n) = i.tmod n := by unfold wrap64; omega
      go_enter Try.func21, Try.ntmps21
      go_wp2
      go_ret
      exact ⟨rfl, rfl⟩
    · rw [if_neg hi] at ht
      have hlt : (i.tmod n < 0) := by omega
      go_enter Try.func21, Try.ntmps21
      go_wp2
      go_ret
      exact ⟨rfl, rfl⟩
end Go.Proofs.Ytciandflgmmjaaa
