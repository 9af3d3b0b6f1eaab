/- The piece table's small functions: none, Len, Pieces. -/
import Derived.Test.YtciandflgmmjaaaRows
import Derived.Test.YtciandflgmmjaaaWb
namespace Go.Proofs.Ytciandflgmmjaaa
set_option linter.unusedVariables false
set_option linter.unusedSimpArgs false
open Go.RowKit
set_option maxHeartbeats 400000 in
theorem none_nilB (w : World) : Calls Try.prog 30 #[.pointer none] w fun e w' => e = .returned (.bool true) ∧ w = w' := by
  go_enter Try.func30, Try.ntmps30
  go_wp2
  go_ret
  exact ⟨rfl, rfl⟩
set_option maxHeartbeats 400000 in
theorem none_ptrB (w : World) (t : Nat) (b : Bool) (hc : w.cell? ⟨t, 0, none⟩ = some (.bool b)) : Calls Try.prog 30 #[.pointer (some ⟨t, 0, none⟩)] w fun e w' => e = .returned (.bool (!b)) ∧ w = w' := by
  go_enter Try.func30, Try.ntmps30
  go_wp2
  go_ret
  exact ⟨rfl, rfl⟩
set_option maxHeartbeats 400000 in
theorem len_tabB (w : World) (base t : Nat) (v : Value) (L : List (List Value)) (h : Tab w base 61 22 5 t v L) (hL : lens L ≤ 1000000) :
    Calls Try.prog 17 #[.pointer (some ⟨t, 0, none⟩)] w fun e w' => e = .returned (.int .i64 (lens L)) ∧ w = w' := by
  have H := Lib.hid h
  have hc0 := h.cell0
  have hc1 := h.cell1
  obtain ⟨ps, ho, _⟩ := h.own
  obtain ⟨A, c, rfl, hnc, hcm⟩ := own_slice ho
  clear h ho
  go_enter Try.func17, Try.ntmps17
  go_wp2_with (go_at_call 30; refine (none_ptrB _ _ _ hc0).mono ?_; rintro e w' ⟨rfl, rfl⟩)
  go_loop [3, 5, 13] (fun m _ i => ∃ k : Nat, k ≤ L.length ∧ i = .int .i64 k ∧ m = .int .i64 (lens (L.take k))) (fun _ _ i => L.length - (intOf i).toNat)
  case atStart => exact ⟨0, Nat.zero_le _, rfl, rfl⟩
  case round =>
    obtain ⟨k, hk, rfl, rfl⟩ := hrel
    by_cases hlt : k < L.length
    · have hp := H.out.piece (List.getElem?_eq_getElem hlt)
      obtain ⟨g, u, rfl, hcell, hpc⟩ := hp
      obtain ⟨A', c', rfl⟩ := hpc.rd.shape
      have h1 := lens_take_succ L k _ (List.getElem?_eq_getElem hlt)
      have h2 := lens_take_le L (k + 1)
      have h3 : lens (L.take k) + L[k].length ≤ 1000000 := by omega
      have H1 := Lib.hid h1
      clear h1 h2 hpc
      go_wp2
      go_round
      case rel => exact ⟨k + 1, by omega, by go_num, by rw [H1.out]; go_num⟩
      case measure => simp [intOf]; omega
    · go_wp2
      go_ret
      have : k = L.length := by omega
      subst this
      simp
end Go.Proofs.Ytciandflgmmjaaa
