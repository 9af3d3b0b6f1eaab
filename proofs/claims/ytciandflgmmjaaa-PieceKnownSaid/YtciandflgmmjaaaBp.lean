/- Three tables side by side: one turns, the others stay. -/
import Derived.Test.YtciandflgmmjaaaBo
namespace Go.Proofs.Ytciandflgmmjaaa
set_option linter.unusedVariables false
set_option linter.unusedSimpArgs false
open Go.RowKit
/-- One table behind w0's blocks, and its row. -/
def On (w0 w : World) (t : Nat) (v : Value) (L : List (List Int)) : Prop := TIB w w0.heap.size t v L ∧ w0.heap.size ≤ t ∧ ∀ b, v.ownBlock = some b → w0.heap.size ≤ b
def Off (t s : Nat) (v y : Value) : Prop := t ≠ s ∧ ∀ b, v.ownBlock = some b → y.ownBlock ≠ some b
theorem Off.symm {t s : Nat} {v y : Value} (h : Off t s v y) : Off s t y v := ⟨fun e => h.1 e.symm, fun b hb e => h.2 b e hb⟩
structure St3 (w0 w : World) (t s u : Nat) (L M N : List (List Int)) : Prop where
  ex : ∃ v y z, On w0 w t v L ∧ On w0 w s y M ∧ On w0 w u z N ∧ Off t s v y ∧ Off t u v z ∧ Off s u y z
  kp : Kp w0 w nob
theorem On.step {w0 w w' : World} {t : Nat} {v : Value} {L : List (List Int)} (h : On w0 w t v L) (hk : Kp w w' nob) : On w0 w' t v L := ⟨h.1.kp hk, h.2⟩
theorem St3.step {w0 w w' : World} {t s u : Nat} {L M N : List (List Int)} (h : St3 w0 w t s u L M N) (hk : Kp w w' nob) : St3 w0 w' t s u L M N := by
  obtain ⟨v, y, z, h1, h2, h3, h4⟩ := h.ex
  exact ⟨⟨v, y, z, h1.step hk, h2.step hk, h3.step hk, h4⟩, h.kp.trans hk (fun _ _ e => e)⟩
theorem St3.turn {w0 w : World} {t s u : Nat} {L M N : List (List Int)} (h : St3 w0 w t s u L M N) : St3 w0 w s u t M N L := by
  obtain ⟨v, y, z, h1, h2, h3, h4, h5, h6⟩ := h.ex
  exact ⟨⟨y, z, v, h2, h3, h1, h6, h4.symm, h5.symm⟩, h.kp⟩
theorem St3.one {w0 w : World} {t s u : Nat} {L M N : List (List Int)} (h : St3 w0 w t s u L M N) : St w0 w t L := by
  obtain ⟨v, y, z, h1, _⟩ := h.ex
  exact ⟨⟨v, h1.1, h1.2.2⟩, h1.2.1, h.kp⟩
theorem St3.two {w0 w : World} {t s u : Nat} {L M N : List (List Int)} (h : St3 w0 w t s u L M N) : St w0 w s M := h.turn.one
theorem St3.three {w0 w : World} {t s u : Nat} {L M N : List (List Int)} (h : St3 w0 w t s u L M N) : St w0 w u N := h.turn.turn.one
/-- A replacement in the first table. -/
theorem rep3_ok (w0 w : World) (t s r : Nat) (L M N : List (List Int)) (h : St3 w0 w t s r L M N) (a b : Nat) (u : Value) (xs : List Int) (hL : lens L ≤ 1000000) (hl : L.length ≤ 900000) (hab : a ≤ b) (hb : b ≤ lens L) {b0 : Nat}
    (hu : w.ownsRow b0 5 1 u xs.length (xs.map (Value.int .u8))) (hx : xs.length ≤ 1000000) :
    Calls Try.prog 14 #[.pointer (some ⟨t, 0, none⟩), .int .i64 a, .int .i64 b, u] w fun e w' => e = .returned (.int .i64 0) ∧ St3 w0 w' t s r (repP L a b xs) M N ∧ Rows5 w w' := by
  obtain ⟨v, y, z, h1, h2, h3, h4, h5, h6⟩ := h.ex
  obtain ⟨hT, hle, hv⟩ := h1
  obtain ⟨ps, ho, _⟩ := hT.own
  have ly := TI_lt h2.1
  have lz := TI_lt h3.1
  refine (repT_okB w w0.heap.size t v L a b u xs hT hL hl hab hb (Rd.of_own hu) ?_ hx h.kp.size).mono ?_
  · intro g hg
    obtain ⟨_, cur, hc⟩ := own_ty hu g hg
    refine ⟨ty_ne hc hT.tab (by decide), fun e => ?_⟩
    obtain ⟨_, cur', hc'⟩ := own_ty ho g e
    exact ty_ne hc hc' (by decide) rfl
  · rintro e w' ⟨rfl, v', g1, g2, g3⟩
    have hs := h.kp.size
    refine ⟨rfl, ⟨⟨v', y, z, ⟨g1, hle, fun b hb => ?_⟩, ⟨h2.1.apart hT g2 (fun e => h4.1 e.symm) (fun b hb e => h4.2 b e hb), h2.2⟩, ⟨h3.1.apart hT g2 (fun e => h5.1 e.symm) (fun b hb e => h5.2 b e hb), h3.2⟩, ⟨h4.1, fun b hb e => ?_⟩, ⟨h5.1, fun b hb e => ?_⟩, h6⟩, h.kp.trans g2 ?_⟩, fun b0 u n xs hr => own_kp hr g2 ?_⟩
    · rcases g3 with g3 | ⟨b', g4, g5⟩
      · rw [g3] at hb; exact hv b hb
      · rw [g4] at hb; injection hb with hb; omega
    · rcases g3 with g3 | ⟨b', g4, g5⟩
      · rw [g3] at hb; exact h4.2 b hb e
      · rw [g4] at hb; injection hb with hb; have := ly.2 b e; omega
    · rcases g3 with g3 | ⟨b', g4, g5⟩
      · rw [g3] at hb; exact h5.2 b hb e
      · rw [g4] at hb; injection hb with hb; have := lz.2 b e; omega
    · rintro k hk (rfl | e)
      · omega
      · have := hv k e; omega
    · rintro b hb (rfl | e)
      · obtain ⟨_, cur, hc⟩ := own_ty hr _ hb
        exact ty_ne hc hT.tab (by decide) rfl
      · obtain ⟨_, cur, hc⟩ := own_ty hr _ hb
        obtain ⟨_, cur', hc'⟩ := own_ty ho b e
        exact ty_ne hc hc' (by decide) rfl
/-- A snapshot beside its table, and a second one. -/
def snap1 (w0 w : World) (t : Nat) (L : List (List Int)) (e : Ending) (w' : World) : Prop :=
  ∃ s, e = .returned (.pointer (some ⟨s, 0, none⟩)) ∧ (∃ v y, On w0 w' t v L ∧ On w0 w' s y L ∧ Off t s v y) ∧ Kp w0 w' nob ∧ Kp w w' nob
theorem snap1_ok (w0 w : World) (t : Nat) (L : List (List Int)) (h : St w0 w t L) (hl : L.length ≤ 1000000) : Calls Try.prog 18 #[.pointer (some ⟨t, 0, none⟩)] w (snap1 w0 w t L) := by
  obtain ⟨v, hT, hv⟩ := h.ex
  have lt := TI_lt hT
  have hs := h.kp.size
  refine (snapT_okB w w0.heap.size t v L hT hl h.kp.size).mono ?_
  rintro e w' ⟨s, y, rfl, h1, h2, h3, h4⟩
  exact ⟨s, rfl, ⟨v, y, ⟨hT.kp h4, h.le, hv⟩, ⟨h3, by omega, fun b hb => by have := h2 b hb; omega⟩, ⟨by omega, fun b hb e => by have := h2 b e; have := lt.2 b hb; omega⟩⟩, h.kp.trans h4 (fun _ _ e => e), h4⟩
theorem snap2_ok (w0 w : World) (t s : Nat) (L : List (List Int)) (h : ∃ v y, On w0 w t v L ∧ On w0 w s y L ∧ Off t s v y) (hk : Kp w0 w nob) (hl : L.length ≤ 1000000) :
    Calls Try.prog 18 #[.pointer (some ⟨t, 0, none⟩)] w fun e w' => ∃ u, e = .returned (.pointer (some ⟨u, 0, none⟩)) ∧ St3 w0 w' t s u L L L ∧ Kp w w' nob := by
  obtain ⟨v, y, hT, hS, hO⟩ := h
  have lt := TI_lt hT.1
  have ls := TI_lt hS.1
  have hs := hk.size
  refine (snapT_okB w w0.heap.size t v L hT.1 hl hk.size).mono ?_
  rintro e w' ⟨u, z, rfl, h1, h2, h3, h4⟩
  exact ⟨u, rfl, ⟨⟨v, y, z, hT.step h4, hS.step h4, ⟨h3, by omega, fun b hb => by have := h2 b hb; omega⟩, hO, ⟨by omega, fun b hb e => by have := h2 b e; have := lt.2 b hb; omega⟩, ⟨by omega, fun b hb e => by have := h2 b e; have := ls.2 b hb; omega⟩⟩, hk.trans h4 (fun _ _ e => e)⟩, h4⟩
/-- A slice of deeds by a table of their numbers. -/
def Row3 (w : World) (A : Option Addr) (n c : Nat) (f : Nat → Int × Int × Int) : Prop := n ≤ c ∧ c ≤ maxLen ∧ ∀ i, i < n → ∃ b off, A = some ⟨b, off, none⟩ ∧ -9223372036854775808 ≤ (f i).1 ∧ (f i).1 ≤ 9223372036854775807 ∧ -9223372036854775808 ≤ (f i).2.1 ∧ (f i).2.1 ≤ 9223372036854775807 ∧ -9223372036854775808 ≤ (f i).2.2 ∧ (f i).2.2 ≤ 9223372036854775807 ∧
  w.cell? ⟨b, off + i * 3, none⟩ = some (.int .i64 (f i).1) ∧ w.cell? ⟨b, off + i * 3 + 1, none⟩ = some (.int .i64 (f i).2.1) ∧ w.cell? ⟨b, off + i * 3 + 2, none⟩ = some (.int .i64 (f i).2.2)
theorem Deeds.row3 {w : World} {A : Option Addr} {n c : Nat} (h : Deeds w A n c) : ∃ f, Row3 w A n c f := by
  have h2 : ∀ i, ∃ x : Int × Int × Int, i < n → ∃ b off, A = some ⟨b, off, none⟩ ∧ -9223372036854775808 ≤ x.1 ∧ x.1 ≤ 9223372036854775807 ∧ -9223372036854775808 ≤ x.2.1 ∧ x.2.1 ≤ 9223372036854775807 ∧ -9223372036854775808 ≤ x.2.2 ∧ x.2.2 ≤ 9223372036854775807 ∧
      w.cell? ⟨b, off + i * 3, none⟩ = some (.int .i64 x.1) ∧ w.cell? ⟨b, off + i * 3 + 1, none⟩ = some (.int .i64 x.2.1) ∧ w.cell? ⟨b, off + i * 3 + 2, none⟩ = some (.int .i64 x.2.2) := by
    intro i
    by_cases hi : i < n
    · obtain ⟨b, off, d0, d1, d2, h1⟩ := h.2.2 i hi
      exact ⟨(d0, d1, d2), fun _ => ⟨b, off, h1⟩⟩
    · exact ⟨(0, 0, 0), fun e => absurd e hi⟩
  exact ⟨fun i => (h2 i).choose, h.1, h.2.1, fun i hi => (h2 i).choose_spec hi⟩
/-- What is left behind a deed; behind k deeds. -/
def doneOne (L : List (List Int)) (x : Int × Int × Int) : List (List Int) := repP L (deedA x.1 (lens L)).toNat (deedB x.1 x.2.1 (lens L)).toNat (deedW x.2.2)
def done (f : Nat → Int × Int × Int) (L : List (List Int)) : Nat → List (List Int)
  | 0 => L
  | k + 1 => doneOne (done f L k) (f k)
end Go.Proofs.Ytciandflgmmjaaa
