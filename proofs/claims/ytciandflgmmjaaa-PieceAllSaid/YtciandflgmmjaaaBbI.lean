/- Lists of numbers: EqBytes, CopyBytes, Clone, Bring. -/
import Derived.Test.YtciandflgmmjaaaBbB
import Derived.Test.YtciandflgmmjaaaRows
import Derived.Test.YtciandflgmmjaaaWb
namespace Go.Proofs.Ytciandflgmmjaaa
set_option linter.unusedVariables false
set_option linter.unusedSimpArgs false
open Go.RowKit
set_option maxHeartbeats 400000 in
theorem eq_okI (w : World) (v u : Value) (l m : List Int) (hl : Rd w v (l.map (Value.int .i64))) (hm : Rd w u (m.map (Value.int .i64))) :
    Calls Try.prog 26 #[v, u] w (eqPost (decide (l = m)) w) := by
  obtain ⟨A, c, rfl⟩ := hl.shape
  obtain ⟨B, d, rfl⟩ := hm.shape
  obtain ⟨h1, h2, h3, h4⟩ := hl.at_
  obtain ⟨h1', h2', h3', h4'⟩ := hm.at_
  simp only [List.length_map, maxLen] at h1 h1' h2 h2' h3 h3' h4 h4' ⊢
  clear hl hm h1 h1'
  by_cases hne : l.length = m.length
  · have hlen : ((l.length : Int) != (m.length : Int)) = false := by rw [hne]; simp
    go_enter Try.func26, Try.ntmps26
    go_wp2
    go_loopw [5] (fun i wr => (∃ k : Nat, k ≤ l.length ∧ i = .int .i64 k ∧ l.take k = m.take k) ∧ Drn w wr) (fun i _ => l.length - (intOf i).toNat)
    case atStart => exact ⟨⟨0, Nat.zero_le _, rfl, rfl⟩, Drn.refl w⟩
    case round =>
      obtain ⟨⟨k, hk, rfl, he⟩, n, rfl⟩ := hrel
      by_cases hlt : k < l.length
      · obtain ⟨b, off, x, rfl, hx, hcx⟩ := h4 k hlt
        obtain ⟨b', off', y, rfl, hy, hcy⟩ := h4' k (by omega)
        rw [List.getElem?_map, List.getElem?_eq_getElem hlt] at hx
        rw [List.getElem?_map, List.getElem?_eq_getElem (by omega)] at hy
        simp only [Option.map_some, Option.some.injEq] at hx hy
        subst hx; subst hy
        by_cases hxy : l[k] = m[k]
        · have hbb : (l[k] != m[k]) = false := by rw [bne_eq_false_iff_eq]; exact hxy
          have Hxy := Lib.hid hxy
          have He := Lib.hid he
          clear hxy he h4 h4'
          go_wp2
          go_quiet (fail)
          go_wp2
          go_roundw
          case rel =>
            refine ⟨⟨k + 1, by omega, by go_num, ?_⟩, ⟨_, rfl⟩⟩
            rw [List.take_succ_eq_append_getElem hlt, List.take_succ_eq_append_getElem (by omega), He.out, Hxy.out]
          case measure => simp [intOf]; omega
        · have hbb : (l[k] != m[k]) = true := by rw [bne_iff_ne]; exact hxy
          have He := Lib.hid he
          have Hxy := Lib.hid hxy
          clear hxy he h4 h4'
          go_wp2
          go_quiet (fail)
          go_wp2
          go_ret
          refine ⟨?_, ⟨_, World.drewN_drewN ..⟩⟩
          have : l ≠ m := fun e => Hxy.out (by subst e; rfl)
          simp [this]
      · have : k = l.length := by omega
        subst this
        have he' : l = m := by rwa [List.take_length, hne, List.take_length] at he
        have He := Lib.hid he'
        clear he he' h4 h4' hne hlen
        go_wp2
        go_ret
        exact ⟨by simp [He.out], ⟨_, rfl⟩⟩
  · have hlen : ((l.length : Int) != (m.length : Int)) = true := by rw [bne_iff_ne]; omega
    go_enter Try.func26, Try.ntmps26
    go_wp2
    go_ret
    exact ⟨by simp; intro e; exact hne (by rw [e]), Drn.refl w⟩

theorem infoI : (Try.prog.info? 3).map (fun i => (i.zero, i.size, i.bytes)) = some (some (.int .i64 0), 1, 8) := by kernel_rfl
/-- A new row of the call's own; all that was there is as it was. -/
def newRowI (w : World) (xs : List Value) (e : Ending) (w' : World) : Prop := ∃ u, e = .returned u ∧ w'.ownsRow w.heap.size 3 1 u xs.length xs ∧ Kp w w' nob
theorem own_grown_kpI {w w' : World} (hg : w.grownBy w' none) : Kp w w' nob := (Kp.of_grown hg).mono fun k _ e => by cases e
set_option maxHeartbeats 400000 in
theorem copy_okI (w : World) (v : Value) (xs : List Value) (h : Rd w v xs) (h1 : ∀ u ∈ xs, u.oneCell' = true) (hb : xs.length * 8 ≤ 140737488355328) :
    Calls Try.prog 23 #[v] w (newRowI w xs) := by
  obtain ⟨A, c, rfl⟩ := h.shape
  go_enter Try.func23, Try.ntmps23
  go_wp2_with (at_builtin; refine wpList_append_rd _ rfl _ _ _ rfl w.heap.size 3 _ _ Try.underlying41 infoI rfl (.slice none 0 0) [] rfl (World.ownsRow_nil _ _ _ _) none rfl _ xs rfl h h1 (by simpa using hb) (by simp; omega) (Nat.le_refl _) ?_; intro v1 w1 hown hg _)
  go_ret
  exact ⟨v1, rfl, by simpa using hown, own_grown_kpI hg⟩
set_option maxHeartbeats 400000 in
theorem clone_okI (w : World) (v : Value) (xs : List Value) (h : Rd w v xs) (h1 : ∀ u ∈ xs, u.oneCell' = true) (hb : xs.length * 8 ≤ 140737488355328) :
    Calls Try.prog 45 #[v] w (newRowI w xs) := by
  obtain ⟨A, c, rfl⟩ := h.shape
  have hnil := fun (w : World) (a : Option Addr) (n c n' c' : Nat) => Lib.run_eql_slice_nil (P := Try.prog) w 41 3 a n c n' c' Try.underlying41
  rcases A with _ | A
  · have hx : xs = [] := by
      obtain ⟨A', c', h0, _, _, hc⟩ := h
      rcases Nat.eq_zero_or_pos xs.length with hz | hz
      · exact List.eq_nil_of_length_eq_zero hz
      · obtain ⟨b, off, he, _⟩ := hc hz
        injection h0 with h0
        subst h0
        cases he
    subst hx
    go_enter Try.func45, Try.ntmps45
    go_wp2
    go_ret
    exact ⟨_, rfl, World.ownsRow_nil _ _ _ _, Kp.refl _ _⟩
  · go_enter Try.func45, Try.ntmps45
    go_wp2_with (at_builtin; refine wpList_append_rd _ rfl _ _ _ rfl w.heap.size 3 _ _ Try.underlying41 infoI rfl (.slice (some ⟨w.heap.size, 0, none⟩) 0 0) [] rfl (World.ownsRow_made _ _ _ (Nat.le_refl _) (Nat.zero_le _) rfl) (some w.heap.size) rfl _ xs rfl (h.alloc _) h1 (by simpa using hb) (by simp; omega) (by simp) ?_; intro v1 w1 hown hg _)
    go_ret
    exact ⟨v1, rfl, by simpa using hown, ((Kp.refl w nob).alloc _).grown hg (by intro k hk hlt; simp at hk; omega)⟩
end Go.Proofs.Ytciandflgmmjaaa
