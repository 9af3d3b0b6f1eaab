/- Words for the piece table: a table in memory (Tab), its pieces (Piece). -/
import Derived.Test.YtciandflgmmjaaaWa
namespace Go.Proofs.Ytciandflgmmjaaa
set_option linter.unusedVariables false
set_option linter.unusedSimpArgs false
open Go.RowKit

/-- A piece: a slice of at least one element, in a block of the element's own type. -/
structure Piece (w : World) (base : Nat) (E : TypeId) (v : Value) (xs : List Value) : Prop where
  rd : Rd w v xs
  ne : xs ≠ []
  ty : ∀ b, v.ownBlock = some b → base ≤ b ∧ ∃ cur fr, w.heap[b]? = some (.cells cur E fr)
/-- A table: its struct in block t, its pieces' row v (of the call's own). -/
structure Tab (w : World) (base : Nat) (TT PT E : TypeId) (t : Nat) (v : Value) (L : List (List Value)) : Prop where
  le : base ≤ t
  tab : w.heap[t]? = some (.cells #[.bool true, v] TT (0, 0))
  own : ∃ ps, w.ownsRow base PT 1 v L.length ps ∧ All2 (Piece w base E) ps L

theorem Piece.kp2 {w w' : World} {bad : Nat → Prop} {base : Nat} {E : TypeId} {v : Value} {xs : List Value} (h : Piece w base E v xs) (hk : Kp w w' bad) (hb : ∀ b cur fr, base ≤ b → w.heap[b]? = some (.cells cur E fr) → ¬ bad b) : Piece w' base E v xs := by
  refine ⟨h.rd.kp hk fun b e => ?_, h.ne, fun b e => ?_⟩
  · obtain ⟨hle, cur, fr, hh⟩ := h.ty b e
    exact hb b cur fr hle hh
  · obtain ⟨hle, cur, fr, hh⟩ := h.ty b e
    exact ⟨hle, cur, fr, hk.heap hh (hb b cur fr hle hh)⟩
theorem Piece.kp {w w' : World} {bad : Nat → Prop} {base : Nat} {E : TypeId} {v : Value} {xs : List Value} (h : Piece w base E v xs) (hk : Kp w w' bad) (hb : ∀ b cur fr, w.heap[b]? = some (.cells cur E fr) → ¬ bad b) : Piece w' base E v xs :=
  h.kp2 hk fun b cur fr _ hh => hb b cur fr hh
theorem Piece.low {w : World} {base base' : Nat} {E : TypeId} {v : Value} {xs : List Value} (h : Piece w base E v xs) (hb : base' ≤ base) : Piece w base' E v xs :=
  ⟨h.rd, h.ne, fun b e => by obtain ⟨hle, hh⟩ := h.ty b e; exact ⟨by omega, hh⟩⟩
theorem own_kp {w w' : World} {bad : Nat → Prop} {base : Nat} {e : TypeId} {v : Value} {n : Nat} {xs : List Value} (h : w.ownsRow base e 1 v n xs) (hk : Kp w w' bad) (hb : ∀ b, v.ownBlock = some b → ¬ bad b) : w'.ownsRow base e 1 v n xs := by
  refine ⟨h.1, ?_⟩
  rcases h.2 with h | ⟨g, cap, cur, rfl, h1, h2, h3⟩
  · exact .inl h
  · exact .inr ⟨g, cap, cur, rfl, h1, hk.heap h2 (hb g rfl), h3⟩
theorem own_ty {w : World} {base : Nat} {e : TypeId} {v : Value} {n : Nat} {xs : List Value} (h : w.ownsRow base e 1 v n xs) : ∀ b, v.ownBlock = some b → base ≤ b ∧ ∃ cur, w.heap[b]? = some (.cells cur e (0, 0)) := by
  intro b hb
  rcases h.2 with ⟨rfl, _⟩ | ⟨g, cap, cur, rfl, h1, h2, h3⟩
  · simp [Value.ownBlock] at hb
  · simp [Value.ownBlock] at hb
    subst hb
    exact ⟨h1, cur, h2⟩
theorem ty_ne {w : World} {b b' : Nat} {cur cur' : Array Value} {e e' : TypeId} {fr fr' : Nat × Nat} (h : w.heap[b]? = some (.cells cur e fr)) (h' : w.heap[b']? = some (.cells cur' e' fr')) (hne : e ≠ e') : b ≠ b' := by
  rintro rfl
  rw [h] at h'
  injection h' with h'
  injection h' with _ ht _
  exact hne ht
theorem Tab.kp {w w' : World} {bad : Nat → Prop} {base : Nat} {TT PT E : TypeId} {t : Nat} {v : Value} {L : List (List Value)} (h : Tab w base TT PT E t v L) (hk : Kp w w' bad)
    (ht : ¬ bad t) (hv : ∀ b, v.ownBlock = some b → ¬ bad b) (hb : ∀ b cur fr, w.heap[b]? = some (.cells cur E fr) → ¬ bad b) : Tab w' base TT PT E t v L := by
  obtain ⟨ps, ho, hp⟩ := h.own
  exact ⟨h.le, hk.heap h.tab ht, ps, own_kp ho hk hv, hp.imp fun _ _ h => h.kp hk hb⟩
theorem Tab.kp2 {w w' : World} {bad : Nat → Prop} {base : Nat} {TT PT E : TypeId} {t : Nat} {v : Value} {L : List (List Value)} (h : Tab w base TT PT E t v L) (hk : Kp w w' bad)
    (hb : ∀ b, base ≤ b → ¬ bad b) : Tab w' base TT PT E t v L := by
  obtain ⟨ps, ho, hp⟩ := h.own
  exact ⟨h.le, hk.heap h.tab (hb t h.le), ps, own_kp ho hk (fun b e => hb b (own_ty ho b e).1), hp.imp fun _ _ h => h.kp2 hk (fun b _ _ hle _ => hb b hle)⟩
theorem Tab.cell0 {w : World} {base : Nat} {TT PT E : TypeId} {t : Nat} {v : Value} {L : List (List Value)} (h : Tab w base TT PT E t v L) : w.cell? ⟨t, 0, none⟩ = some (.bool true) := by
  rw [cell_of_row w t 0 _ _ _ h.tab]; rfl
theorem Tab.cell1 {w : World} {base : Nat} {TT PT E : TypeId} {t : Nat} {v : Value} {L : List (List Value)} (h : Tab w base TT PT E t v L) : w.cell? ⟨t, 1, none⟩ = some v := by
  rw [cell_of_row w t 1 _ _ _ h.tab]; rfl
theorem own_slice {w : World} {base : Nat} {e : TypeId} {v : Value} {n : Nat} {xs : List Value} (h : w.ownsRow base e 1 v n xs) : ∃ A c, v = .slice A n c ∧ n ≤ c ∧ c ≤ 9223372036854775807 := by
  rcases h.2 with ⟨rfl, rfl⟩ | ⟨g, cap, cur, rfl, _, _, h1, h2, _⟩
  · exact ⟨none, 0, rfl, Nat.le_refl _, by omega⟩
  · exact ⟨_, cap, rfl, h1, by simpa [maxLen] using h2⟩
/-- The k-th piece, where there is one. -/
theorem Tab.piece {w : World} {base : Nat} {TT PT E : TypeId} {t : Nat} {A : Option Addr} {n c : Nat} {L : List (List Value)} (h : Tab w base TT PT E t (.slice A n c) L) {k : Nat} {xs : List Value} (hk : L[k]? = some xs) :
    ∃ g u, A = some ⟨g, 0, none⟩ ∧ w.cell? ⟨g, k, none⟩ = some u ∧ Piece w base E u xs := by
  obtain ⟨ps, ho, hp⟩ := h.own
  obtain ⟨u, hu, hpc⟩ := hp.get k hk
  rcases ho.2 with ⟨h0, h1⟩ | ⟨g, cap, cur, h0, _⟩
  · have hl : L = [] := List.eq_nil_of_length_eq_zero h1
    subst hl
    simp at hk
  · injection h0 with hA hn hc
    subst hA
    refine ⟨g, u, rfl, ?_, hpc⟩
    have := ho.cells (g := g) rfl k u hu
    rwa [show (⟨g, 0, none⟩ : Addr).add k = ⟨g, k, none⟩ from by unfold Addr.add; split <;> simp_all] at this
/-- How many elements the first k pieces have. -/
def lens {α : Type} (L : List (List α)) : Nat := L.flatten.length
theorem lens_cons {α : Type} (p : List α) (L : List (List α)) : lens (p :: L) = p.length + lens L := by simp [lens]
theorem lens_take_succ {α : Type} (L : List (List α)) (k : Nat) (p : List α) (h : L[k]? = some p) : lens (L.take (k + 1)) = lens (L.take k) + p.length := by
  rw [List.take_add_one, h]
  simp [lens]
theorem lens_append {α : Type} (L M : List (List α)) : lens (L ++ M) = lens L + lens M := by simp [lens]
theorem lens_take_le {α : Type} (L : List (List α)) (k : Nat) : lens (L.take k) ≤ lens L := by
  have h := lens_append (L.take k) (L.drop k)
  rw [List.take_append_drop] at h
  omega
end Go.Proofs.Ytciandflgmmjaaa
