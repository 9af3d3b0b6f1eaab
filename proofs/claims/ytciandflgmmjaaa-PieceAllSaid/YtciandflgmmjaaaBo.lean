/- One table that a law turns: told shut, with the contracts of its methods; two appends in a row; a slice of deeds. -/
import Derived.Test.YtciandflgmmjaaaBn
namespace Go.Proofs.Ytciandflgmmjaaa
set_option linter.unusedVariables false
set_option linter.unusedSimpArgs false
open Go.RowKit
/-- A slice of deeds: three whole numbers each. -/
def Deeds (w : World) (A : Option Addr) (n c : Nat) : Prop := n ≤ c ∧ c ≤ maxLen ∧ ∀ i, i < n → ∃ b off d0 d1 d2, A = some ⟨b, off, none⟩ ∧ -9223372036854775808 ≤ d0 ∧ d0 ≤ 9223372036854775807 ∧ -9223372036854775808 ≤ d1 ∧ d1 ≤ 9223372036854775807 ∧ -9223372036854775808 ≤ d2 ∧ d2 ≤ 9223372036854775807 ∧
  w.cell? ⟨b, off + i * 3, none⟩ = some (.int .i64 d0) ∧ w.cell? ⟨b, off + i * 3 + 1, none⟩ = some (.int .i64 d1) ∧ w.cell? ⟨b, off + i * 3 + 2, none⟩ = some (.int .i64 d2)
theorem Deeds.kp {w w' : World} {A : Option Addr} {n c : Nat} (h : Deeds w A n c) (hk : Kp w w' nob) : Deeds w' A n c := by
  refine ⟨h.1, h.2.1, fun i hi => ?_⟩
  obtain ⟨b, off, d0, d1, d2, h1, h2, h3, h4, h5, h6, h7, h8, h9, h10⟩ := h.2.2 i hi
  exact ⟨b, off, d0, d1, d2, h1, h2, h3, h4, h5, h6, h7, hk.cell h8 id, hk.cell h9 id, hk.cell h10 id⟩
/-- Rows of bytes stay what they are. -/
def Rows5 (w w' : World) : Prop := ∀ b0 u n xs, w.ownsRow b0 5 1 u n xs → w'.ownsRow b0 5 1 u n xs
theorem Rows5.of_kp {w w' : World} (hk : Kp w w' nob) : Rows5 w w' := fun _ _ _ _ h => own_kp h hk (fun _ _ e => e)
theorem Rows5.trans {a b c : World} (h : Rows5 a b) (k : Rows5 b c) : Rows5 a c := fun b0 u n xs x => k b0 u n xs (h b0 u n xs x)
/-- The table at t, made since w0, holds the pieces L; all else is as at w0. -/
structure St (w0 w : World) (t : Nat) (L : List (List Int)) : Prop where
  ex : ∃ v, TIB w w0.heap.size t v L ∧ (∀ b, v.ownBlock = some b → w0.heap.size ≤ b)
  le : w0.heap.size ≤ t
  kp : Kp w0 w nob
theorem St.full {w0 w : World} {t : Nat} {L : List (List Int)} (h : St w0 w t L) : full L := by
  obtain ⟨v, hT, _⟩ := h.ex
  exact fullTB hT
theorem St.step {w0 w w' : World} {t : Nat} {L : List (List Int)} (h : St w0 w t L) (hk : Kp w w' nob) : St w0 w' t L := by
  obtain ⟨v, hT, hv⟩ := h.ex
  exact ⟨⟨v, hT.kp hk, hv⟩, h.le, h.kp.trans hk (fun _ _ e => e)⟩
theorem newS_ok (w0 w : World) (u : Value) (xs : List Int) (hk : Kp w0 w nob) (hu : Rd w u (xs.map (Value.int .u8))) (hx : xs.length ≤ 1000000) :
    Calls Try.prog 11 #[u] w fun e w' => ∃ t, e = .returned (.pointer (some ⟨t, 0, none⟩)) ∧ St w0 w' t (if xs = [] then [] else [xs]) ∧ Kp w w' nob := by
  refine (newT_okB w w0.heap.size u xs hu hx hk.size).mono ?_
  rintro e w' ⟨t, v, rfl, h1, h2, h3, h4⟩
  have := hk.size
  exact ⟨t, rfl, ⟨⟨v, h3, fun b hb => by have := h2 b hb; omega⟩, by omega, hk.trans h4 (fun _ _ e => e)⟩, h4⟩
def repS (w0 w : World) (t : Nat) (L : List (List Int)) (e : Ending) (w' : World) : Prop :=
  e = .returned (.int .i64 0) ∧ St w0 w' t L ∧ Rows5 w w'
theorem repS_ok (w0 w : World) (t : Nat) (L : List (List Int)) (h : St w0 w t L) (a b : Nat) (u : Value) (xs : List Int) (hL : lens L ≤ 1000000) (hl : L.length ≤ 900000) (hab : a ≤ b) (hb : b ≤ lens L) {b0 : Nat}
    (hu : w.ownsRow b0 5 1 u xs.length (xs.map (Value.int .u8))) (hx : xs.length ≤ 1000000) :
    Calls Try.prog 14 #[.pointer (some ⟨t, 0, none⟩), .int .i64 a, .int .i64 b, u] w (repS w0 w t (repP L a b xs)) := by
  obtain ⟨v, hT, hv⟩ := h.ex
  obtain ⟨ps, ho, _⟩ := hT.own
  refine (repT_okB w w0.heap.size t v L a b u xs hT hL hl hab hb (Rd.of_own hu) ?_ hx h.kp.size).mono ?_
  · intro g hg
    obtain ⟨_, cur, hc⟩ := own_ty hu g hg
    refine ⟨ty_ne hc hT.tab (by decide), fun e => ?_⟩
    obtain ⟨_, cur', hc'⟩ := own_ty ho g e
    exact ty_ne hc hc' (by decide) rfl
  · rintro e w' ⟨rfl, v', h1, h2, h3⟩
    have hs := h.kp.size
    refine ⟨rfl, ⟨⟨v', h1, fun b hb => ?_⟩, h.le, h.kp.trans h2 ?_⟩, fun b0 u n xs hr => own_kp hr h2 ?_⟩
    · rcases h3 with h3 | ⟨b', h4, h5⟩
      · rw [h3] at hb; exact hv b hb
      · rw [h4] at hb; injection hb with hb; omega
    · rintro k hk (rfl | e)
      · have := h.le; omega
      · have := hv k e; omega
    · rintro b hb (rfl | e)
      · obtain ⟨_, cur, hc⟩ := own_ty hr _ hb
        exact ty_ne hc hT.tab (by decide) rfl
      · obtain ⟨_, cur, hc⟩ := own_ty hr _ hb
        obtain ⟨_, cur', hc'⟩ := own_ty ho b e
        exact ty_ne hc hc' (by decide) rfl
theorem repS_nil (w0 w : World) (t : Nat) (L : List (List Int)) (h : St w0 w t L) (a b : Nat) (hL : lens L ≤ 1000000) (hl : L.length ≤ 900000) (hab : a ≤ b) (hb : b ≤ lens L) :
    Calls Try.prog 14 #[.pointer (some ⟨t, 0, none⟩), .int .i64 a, .int .i64 b, .slice none 0 0] w (repS w0 w t (repP L a b [])) :=
  repS_ok w0 w t L h a b _ [] hL hl hab hb (b0 := 0) (World.ownsRow_nil _ _ _ _) (by simp)
theorem repS_const (w0 w : World) (t : Nat) (L : List (List Int)) (h : St w0 w t L) (a b : Nat) (xs : List Int) (hL : lens L ≤ 1000000) (hl : L.length ≤ 900000) (hab : a ≤ b) (hb : b ≤ lens L) (fr : Nat × Nat) (hx : xs.length ≤ 1000000) :
    Calls Try.prog 14 #[.pointer (some ⟨t, 0, none⟩), .int .i64 a, .int .i64 b, .slice (some ⟨w.heap.size, 0, none⟩) xs.length xs.length] (w.alloc (.cells (xs.map (Value.int .u8)).toArray 5 fr)) (repS w0 w t (repP L a b xs)) := by
  obtain ⟨v, hT, hv⟩ := h.ex
  obtain ⟨ps, ho, _⟩ := hT.own
  refine (rep_const w w0.heap.size t v L a b xs fr hT hL hl hab hb hx h.kp.size).mono ?_
  rintro e w' ⟨rfl, v', h1, h2, h3⟩
  have hs := h.kp.size
  refine ⟨rfl, ⟨⟨v', h1, fun b hb => ?_⟩, h.le, h.kp.trans h2 ?_⟩, fun b0 u n xs hr => own_kp hr h2 ?_⟩
  · rcases h3 with h3 | ⟨b', h4, h5⟩
    · rw [h3] at hb; exact hv b hb
    · rw [h4] at hb; injection hb with hb; omega
  · rintro k hk (rfl | e)
    · have := h.le; omega
    · have := hv k e; omega
  · rintro b hb (rfl | e)
    · obtain ⟨_, cur, hc⟩ := own_ty hr _ hb
      exact ty_ne hc hT.tab (by decide) rfl
    · obtain ⟨_, cur, hc⟩ := own_ty hr _ hb
      obtain ⟨_, cur', hc'⟩ := own_ty ho b e
      exact ty_ne hc hc' (by decide) rfl
theorem errS_ok (w0 w : World) (t : Nat) (L : List (List Int)) (h : St w0 w t L) (a b : Int) (u : Value) (hL : lens L ≤ 1000000) (hab : ¬ (0 ≤ a ∧ a ≤ b ∧ b ≤ lens L)) :
    Calls Try.prog 14 #[.pointer (some ⟨t, 0, none⟩), .int .i64 a, .int .i64 b, u] w fun e w' => e = .returned (.int .i64 9) ∧ w = w' := by
  obtain ⟨v, hT, _⟩ := h.ex
  exact repT_errB w _ t v L a b u hT hL hab
theorem lenS_ok (w0 w : World) (t : Nat) (L : List (List Int)) (h : St w0 w t L) (hL : lens L ≤ 1000000) :
    Calls Try.prog 17 #[.pointer (some ⟨t, 0, none⟩)] w fun e w' => e = .returned (.int .i64 (lens L)) ∧ w = w' := by
  obtain ⟨v, hT, _⟩ := h.ex
  exact lenT_okB w _ t v L hT hL
theorem piecesS_ok (w0 w : World) (t : Nat) (L : List (List Int)) (h : St w0 w t L) :
    Calls Try.prog 19 #[.pointer (some ⟨t, 0, none⟩)] w fun e w' => e = .returned (.int .i64 L.length) ∧ w = w' := by
  obtain ⟨v, hT, _⟩ := h.ex
  have := pieces_okB w _ t v _ hT
  rwa [List.length_map] at this
theorem tellsS_ok (w0 w : World) (t : Nat) (L : List (List Int)) (h : St w0 w t L) (hL : lens L ≤ 1000000) (want : ByteArray) (hw : want = strOfNums L.flatten) (hp : L.length ≤ 1000000) :
    Calls Try.prog 27 #[.pointer (some ⟨t, 0, none⟩), .string want, .int .i64 L.length] w (yes w) := by
  obtain ⟨v, hT, _⟩ := h.ex
  exact tells_true w _ t v L hT hL want hw hp
theorem sliceS_ok (w0 w : World) (t : Nat) (L : List (List Int)) (h : St w0 w t L) (a b : Nat) (hL : lens L ≤ 1000000) (hab : a ≤ b) (hb : b ≤ lens L) :
    Calls Try.prog 15 #[.pointer (some ⟨t, 0, none⟩), .int .i64 a, .int .i64 b] w (rowOfB w ((L.flatten.take b).drop a)) := by
  obtain ⟨v, hT, _⟩ := h.ex
  exact slice_goodB w _ t v L a b hT hL hab hb
theorem sliceS_all (w0 w : World) (t : Nat) (L : List (List Int)) (h : St w0 w t L) (hL : lens L ≤ 1000000) :
    Calls Try.prog 15 #[.pointer (some ⟨t, 0, none⟩), .int .i64 0, .int .i64 (lens L)] w (rowOfB w L.flatten) := by
  have := sliceS_ok w0 w t L h 0 (lens L) hL (Nat.zero_le _) (Nat.le_refl _)
  rwa [List.drop_zero, show L.flatten.take (lens L) = L.flatten from List.take_length] at this
/-- Two appends, one behind the other, onto a row of the call's own. -/
theorem two_appends (w : World) (base : Nat) (u : Value) (X : List Int) (ho : w.ownsRow base 5 1 u X.length (X.map (Value.int .u8))) (hb : base ≤ w.heap.size) (a : Value) (Y : List Int) (ha : Rd w a (Y.map (Value.int .u8))) (c : Value) (Z : List Int) (hc : Rd w c (Z.map (Value.int .u8)))
    (hub : ∀ g, c.ownBlock = some g → u.ownBlock ≠ some g) (hsz : X.length + Y.length + Z.length ≤ 1000000) :
    ∃ v1 w1 v2 w2, (Builtin.append_ #[22, 22] 22 #[u, a]).run Try.prog w = .ok v1 w1 ∧ (Builtin.append_ #[22, 22] 22 #[v1, c]).run Try.prog w1 = .ok v2 w2 ∧
      w2.ownsRow base 5 1 v2 (X ++ Y ++ Z).length ((X ++ Y ++ Z).map (Value.int .u8)) ∧ Kp w w2 (fun k => u.ownBlock = some k) := by
  have h1 : ∀ (xs : List Int), ∀ u ∈ xs.map (Value.int .u8), u.oneCell' = true := one_intsB
  obtain ⟨v1, w1, r1, o1, g1, b1⟩ := run_append_rd (P := Try.prog) w base 22 22 5 (.int .u8 0) 1 Try.underlying22 infoB rfl u (X.map (Value.int .u8)) (by simpa using ho) a (Y.map (Value.int .u8)) ha (h1 Y) (by simp; omega) (by simp; omega) hb
  have k1 : Kp w w1 (fun k => u.ownBlock = some k) := Kp.of_grown g1
  have hc1 := hc.kp k1 (fun b e => hub b e)
  obtain ⟨v2, w2, r2, o2, g2, b2⟩ := run_append_rd (P := Try.prog) w1 base 22 22 5 (.int .u8 0) 1 Try.underlying22 infoB rfl v1 _ o1 c (Z.map (Value.int .u8)) hc1 (h1 Z) (by simp; omega) (by simp; omega) (by have := g1.size; omega)
  refine ⟨v1, w1, v2, w2, r1, r2, ?_, k1.trans (Kp.of_grown g2) ?_⟩
  · simpa using o2
  · rintro k hk e
    rcases b1 with b1 | b1
    · rw [b1] at e; exact e
    · rw [b1] at e; injection e with e; omega
end Go.Proofs.Ytciandflgmmjaaa
