/- The table's methods, told of numbers. -/
import Derived.Test.YtciandflgmmjaaaBkI
namespace Go.Proofs.Ytciandflgmmjaaa
set_option linter.unusedVariables false
set_option linter.unusedSimpArgs false
open Go.RowKit
abbrev TII (w : World) (base t : Nat) (v : Value) (L : List (List Int)) : Prop := Tab w base 68 41 3 t v (L.map (List.map (Value.int .i64)))
def newTI (w : World) (base : Nat) (L : List (List Int)) (e : Ending) (w' : World) : Prop :=
  ∃ t v, e = .returned (.pointer (some ⟨t, 0, none⟩)) ∧ w.heap.size ≤ t ∧ (∀ b, v.ownBlock = some b → w.heap.size ≤ b) ∧ TII w' base t v L ∧ Kp w w' nob
def repTI (w : World) (base t : Nat) (v : Value) (L : List (List Int)) (e : Ending) (w' : World) : Prop :=
  e = .returned (.int .i64 0) ∧ ∃ v', TII w' base t v' L ∧ Kp w w' (fun k => k = t ∨ v.ownBlock = some k) ∧ (v'.ownBlock = v.ownBlock ∨ ∃ b, v'.ownBlock = some b ∧ w.heap.size ≤ b)
theorem one_intsI (xs : List Int) : ∀ u ∈ xs.map (Value.int .i64), u.oneCell' = true := by
  intro u hu
  simp only [List.mem_map] at hu
  obtain ⟨q, _, rfl⟩ := hu
  rfl
theorem newT_okI (w : World) (base : Nat) (u : Value) (xs : List Int) (hu : Rd w u (xs.map (Value.int .i64))) (hx : xs.length ≤ 1000000) (hb : base ≤ w.heap.size) :
    Calls Try.prog 20 #[u] w (newTI w base (if xs = [] then [] else [xs])) := by
  refine (new_okI w base u _ hu (one_intsI xs) (by simpa using hx) hb).mono ?_
  rintro e w' ⟨t, v, h1, h2, h3, h4, h5⟩
  refine ⟨t, v, h1, h2, h3, ?_, h5⟩
  unfold TII
  rwa [show (if xs = [] then [] else [xs]).map (List.map (Value.int .i64)) = (if xs.map (Value.int .i64) = [] then [] else [xs.map (Value.int .i64)]) from by
    by_cases h : xs = []
    · subst h; rfl
    · rw [if_neg h, if_neg (by simpa using h)]; rfl]
theorem repT_okI (w : World) (base t : Nat) (v : Value) (L : List (List Int)) (a b : Nat) (u : Value) (xs : List Int) (h : TII w base t v L) (hL : lens L ≤ 1000000) (hl : L.length ≤ 900000) (hab : a ≤ b) (hbl : b ≤ lens L)
    (hu : Rd w u (xs.map (Value.int .i64))) (hub : ∀ g, u.ownBlock = some g → g ≠ t ∧ v.ownBlock ≠ some g) (hx : xs.length ≤ 1000000) (hb : base ≤ w.heap.size) :
    Calls Try.prog 22 #[.pointer (some ⟨t, 0, none⟩), .int .i64 a, .int .i64 b, u] w (repTI w base t v (repP L a b xs)) := by
  refine (replace_goodI w base t v _ a b u _ h (by rw [lens_map]; exact hL) (by simpa using hl) hab (by rw [lens_map]; exact hbl) hu hub (one_intsI xs) (by simpa using hx) hb).mono ?_
  rintro e w' ⟨rfl, v', h1, h2, h3⟩
  rw [repP_map] at h1
  exact ⟨rfl, v', h1, h2, h3⟩
theorem repT_errI (w : World) (base t : Nat) (v : Value) (L : List (List Int)) (a b : Int) (u : Value) (h : TII w base t v L) (hL : lens L ≤ 1000000) (hab : ¬ (0 ≤ a ∧ a ≤ b ∧ b ≤ lens L)) :
    Calls Try.prog 22 #[.pointer (some ⟨t, 0, none⟩), .int .i64 a, .int .i64 b, u] w fun e w' => e = .returned (.int .i64 9) ∧ w = w' :=
  replace_errI w base t v _ a b u h (by rw [lens_map]; exact hL) (by rw [lens_map]; exact hab)
theorem lenT_okI (w : World) (base t : Nat) (v : Value) (L : List (List Int)) (h : TII w base t v L) (hL : lens L ≤ 1000000) :
    Calls Try.prog 36 #[.pointer (some ⟨t, 0, none⟩)] w fun e w' => e = .returned (.int .i64 (lens L)) ∧ w = w' := by
  have := len_tabI w base t v _ h (by rw [lens_map]; exact hL)
  rwa [lens_map] at this
theorem fullTI {w : World} {base t : Nat} {v : Value} {L : List (List Int)} (h : TII w base t v L) : full L := by
  obtain ⟨_, _, hp⟩ := h.own
  have := full_ofI hp
  intro p hp e
  exact this (p.map (Value.int .i64)) (List.mem_map_of_mem hp) (by rw [e]; rfl)
/-- All is as it was but for the table: what is left of a table that another step keeps. -/
theorem TII.kp {w w' : World} {base t : Nat} {v : Value} {L : List (List Int)} (h : TII w base t v L) (hk : Kp w w' nob) : TII w' base t v L := Tab.kp h hk id (fun _ _ e => e) (fun _ _ _ _ e => e)
/-- A table beside the one that turns: apart in its struct and in its row. -/
theorem TII.apart {w w' : World} {base t t' : Nat} {v v' : Value} {L : List (List Int)} {M : List (List Value)} (h : TII w base t v L) (h' : Tab w base 68 41 3 t' v' M) (hk : Kp w w' (fun k => k = t' ∨ v'.ownBlock = some k)) (ht : t ≠ t') (hv : ∀ b, v.ownBlock = some b → v'.ownBlock ≠ some b) : TII w' base t v L := by
  obtain ⟨ps, ho, _⟩ := h.own
  obtain ⟨ps', ho', _⟩ := h'.own
  refine Tab.kp h hk ?_ ?_ ?_
  · rintro (e | e)
    · exact ht e
    · obtain ⟨_, cur, hc⟩ := own_ty ho' t e
      exact ty_ne h.tab hc (by decide) rfl
  · intro b hb
    rintro (e | e)
    · subst e
      obtain ⟨_, cur, hc⟩ := own_ty ho b hb
      exact ty_ne h'.tab hc (by decide) rfl
    · exact hv b hb e
  · intro b cur fr hh
    rintro (e | e)
    · subst e
      exact ty_ne h'.tab hh (by decide) rfl
    · obtain ⟨_, cur', hc⟩ := own_ty ho' b e
      exact ty_ne hh hc (by decide) rfl
end Go.Proofs.Ytciandflgmmjaaa
