/- One table of numbers that a law turns. -/
import Derived.Test.YtciandflgmmjaaaBmI
import Derived.Test.YtciandflgmmjaaaBo
namespace Go.Proofs.Ytciandflgmmjaaa
set_option linter.unusedVariables false
set_option linter.unusedSimpArgs false
open Go.RowKit
/-- The table of numbers at t, made since w0, holds the pieces L; all else is as at w0. -/
structure StI (w0 w : World) (t : Nat) (L : List (List Int)) : Prop where
  ex : ∃ v, TII w w0.heap.size t v L ∧ (∀ b, v.ownBlock = some b → w0.heap.size ≤ b)
  le : w0.heap.size ≤ t
  kp : Kp w0 w nob
theorem StI.step {w0 w w' : World} {t : Nat} {L : List (List Int)} (h : StI w0 w t L) (hk : Kp w w' nob) : StI w0 w' t L := by
  obtain ⟨v, hT, hv⟩ := h.ex
  exact ⟨⟨v, hT.kp hk, hv⟩, h.le, h.kp.trans hk (fun _ _ e => e)⟩
theorem newI_ok (w0 w : World) (u : Value) (xs : List Int) (hk : Kp w0 w nob) (hu : Rd w u (xs.map (Value.int .i64))) (hx : xs.length ≤ 1000000) :
    Calls Try.prog 20 #[u] w fun e w' => ∃ t, e = .returned (.pointer (some ⟨t, 0, none⟩)) ∧ StI w0 w' t (if xs = [] then [] else [xs]) ∧ Kp w w' nob := by
  refine (newT_okI w w0.heap.size u xs hu hx hk.size).mono ?_
  rintro e w' ⟨t, v, rfl, h1, h2, h3, h4⟩
  have := hk.size
  exact ⟨t, rfl, ⟨⟨v, h3, fun b hb => by have := h2 b hb; omega⟩, by omega, hk.trans h4 (fun _ _ e => e)⟩, h4⟩
/-- A replacement by numbers that have just been laid. -/
theorem repI_new (w0 w : World) (t : Nat) (L : List (List Int)) (h : StI w0 w t L) (a b : Nat) (xs : List Int) (fr : Nat × Nat) (hL : lens L ≤ 1000000) (hl : L.length ≤ 900000) (hab : a ≤ b) (hb : b ≤ lens L) (hx : xs.length ≤ 1000000) :
    Calls Try.prog 22 #[.pointer (some ⟨t, 0, none⟩), .int .i64 a, .int .i64 b, .slice (some ⟨w.heap.size, 0, none⟩) xs.length xs.length] (w.alloc (.cells (xs.map (Value.int .i64)).toArray 3 fr)) fun e w' => e = .returned (.int .i64 0) ∧ StI w0 w' t (repP L a b xs) := by
  obtain ⟨v, hT, hv⟩ := h.ex
  obtain ⟨ps, ho, _⟩ := hT.own
  have hk : Kp w (w.alloc (.cells (xs.map (Value.int .i64)).toArray 3 fr)) nob := (Kp.refl w nob).alloc _
  have hr := fresh_rd w (xs.map (Value.int .i64)).toArray 3 fr xs.length xs.length (by simp) (Nat.le_refl _) hx
  have ht : t < w.heap.size := (Array.getElem?_eq_some_iff.1 hT.tab).1
  have hvb : ∀ b, v.ownBlock = some b → b < w.heap.size := fun b hb => by
    obtain ⟨_, cur, hc⟩ := own_ty ho b hb
    exact (Array.getElem?_eq_some_iff.1 hc).1
  have hs := h.kp.size
  refine (repT_okI _ w0.heap.size t v L a b _ xs (hT.kp hk) hL hl hab hb (by simpa using hr) (fun g hg => ?_) hx (by have := hk.size; omega)).mono ?_
  · injection hg with hg
    simp only at hg
    exact ⟨by omega, fun e => by have := hvb _ e; omega⟩
  · rintro e w' ⟨rfl, v', h1, h2, h3⟩
    refine ⟨rfl, ⟨v', h1, fun b hb => ?_⟩, h.le, (h.kp.trans hk (fun _ _ e => e)).trans h2 ?_⟩
    · rcases h3 with h3 | ⟨b', h4, h5⟩
      · rw [h3] at hb; exact hv b hb
      · rw [h4] at hb; injection hb with hb; have := hk.size; omega
    · rintro k hk (rfl | e)
      · have := h.le; omega
      · have := hv k e; omega
theorem sliceI_all (w0 w : World) (t : Nat) (L : List (List Int)) (h : StI w0 w t L) (hL : lens L ≤ 1000000) :
    Calls Try.prog 25 #[.pointer (some ⟨t, 0, none⟩), .int .i64 0, .int .i64 (lens L)] w (rowOfI w L.flatten) := by
  obtain ⟨v, hT, _⟩ := h.ex
  have := slice_goodI w _ t v L 0 (lens L) hT hL (Nat.zero_le _) (Nat.le_refl _)
  rwa [List.drop_zero, show L.flatten.take (lens L) = L.flatten from List.take_length] at this
/-- Two appends, one behind the other, onto a row of the call's own. -/
theorem two_appendsI (w : World) (base : Nat) (u : Value) (X : List Int) (ho : w.ownsRow base 3 1 u X.length (X.map (Value.int .i64))) (hb : base ≤ w.heap.size) (a : Value) (Y : List Int) (ha : Rd w a (Y.map (Value.int .i64))) (c : Value) (Z : List Int) (hc : Rd w c (Z.map (Value.int .i64)))
    (hub : ∀ g, c.ownBlock = some g → u.ownBlock ≠ some g) (hsz : X.length + Y.length + Z.length ≤ 1000000) :
    ∃ v1 w1 v2 w2, (Builtin.append_ #[41, 41] 41 #[u, a]).run Try.prog w = .ok v1 w1 ∧ (Builtin.append_ #[41, 41] 41 #[v1, c]).run Try.prog w1 = .ok v2 w2 ∧
      w2.ownsRow base 3 1 v2 (X ++ Y ++ Z).length ((X ++ Y ++ Z).map (Value.int .i64)) ∧ Kp w w2 (fun k => u.ownBlock = some k) := by
  have h1 : ∀ (xs : List Int), ∀ u ∈ xs.map (Value.int .i64), u.oneCell' = true := one_intsI
  obtain ⟨v1, w1, r1, o1, g1, b1⟩ := run_append_rd (P := Try.prog) w base 41 41 3 (.int .i64 0) 8 Try.underlying41 infoI rfl u (X.map (Value.int .i64)) (by simpa using ho) a (Y.map (Value.int .i64)) ha (h1 Y) (by simp; omega) (by simp; omega) hb
  have k1 : Kp w w1 (fun k => u.ownBlock = some k) := Kp.of_grown g1
  have hc1 := hc.kp k1 (fun b e => hub b e)
  obtain ⟨v2, w2, r2, o2, g2, b2⟩ := run_append_rd (P := Try.prog) w1 base 41 41 3 (.int .i64 0) 8 Try.underlying41 infoI rfl v1 _ o1 c (Z.map (Value.int .i64)) hc1 (h1 Z) (by simp; omega) (by simp; omega) (by have := g1.size; omega)
  refine ⟨v1, w1, v2, w2, r1, r2, ?_, k1.trans (Kp.of_grown g2) ?_⟩
  · simpa using o2
  · rintro k hk e
    rcases b1 with b1 | b1
    · rw [b1] at e; exact e
    · rw [b1] at e; injection e with e; omega
/-- A slice that reads at a world reads at every later one that keeps what was there. -/
theorem Rd.kpl {w w' : World} {bad : Nat → Prop} {v : Value} {xs : List Value} (h : Rd w v xs) (hk : Kp w w' bad) (hb : ∀ k, k < w.heap.size → ¬ bad k) : Rd w' v xs := by
  obtain ⟨A, c, rfl, h1, h2, h3⟩ := h
  refine ⟨A, c, rfl, h1, h2, fun hp => ?_⟩
  obtain ⟨b, off, rfl, hc⟩ := h3 hp
  exact ⟨b, off, rfl, fun j u hu => hk.cell (hc j u hu) (hb b (World.block_lt_of_cell? w _ (hc j u hu)))⟩
/-- The row of want: two appends onto a copy. -/
theorem want_runs (w3 w6 : World) (base : Nat) (hbase : base ≤ w3.heap.size) (hk : Kp w3 w6 nob) (u : Value) (X : List Int) (ho : w6.ownsRow w3.heap.size 3 1 u X.length (X.map (Value.int .i64))) (a : Value) (Y : List Int) (ha : Rd w6 a (Y.map (Value.int .i64))) (c : Value) (Z : List Int) (hc : Rd w3 c (Z.map (Value.int .i64)))
    (hsz : X.length + Y.length + Z.length ≤ 1000000) :
    ∃ v1 w7 v2 w8, (Builtin.append_ #[41, 41] 41 #[u, a]).run Try.prog w6 = .ok v1 w7 ∧ (Builtin.append_ #[41, 41] 41 #[v1, c]).run Try.prog w7 = .ok v2 w8 ∧
      w8.ownsRow base 3 1 v2 (X ++ Y ++ Z).length ((X ++ Y ++ Z).map (Value.int .i64)) ∧ Kp w3 w8 nob := by
  have h1 : ∀ (xs : List Int), ∀ u ∈ xs.map (Value.int .i64), u.oneCell' = true := one_intsI
  have hs := hk.size
  obtain ⟨v1, w7, r1, o1, g1, b1⟩ := run_append_rd (P := Try.prog) w6 w3.heap.size 41 41 3 (.int .i64 0) 8 Try.underlying41 infoI rfl u (X.map (Value.int .i64)) (by simpa using ho) a (Y.map (Value.int .i64)) ha (h1 Y) (by simp; omega) (by simp; omega) hs
  have k1 : Kp w3 w7 nob := hk.trans (Kp.of_grown g1) (fun k hlt e => by have := (own_ty ho k e).1; omega)
  have hc1 := hc.kpl k1 (fun _ _ e => e)
  obtain ⟨v2, w8, r2, o2, g2, b2⟩ := run_append_rd (P := Try.prog) w7 w3.heap.size 41 41 3 (.int .i64 0) 8 Try.underlying41 infoI rfl v1 _ o1 c (Z.map (Value.int .i64)) hc1 (h1 Z) (by simp; omega) (by simp; omega) (by have := g1.size; omega)
  refine ⟨v1, w7, v2, w8, r1, r2, ?_, k1.trans (Kp.of_grown g2) (fun k hlt e => by have := (own_ty o1 k e).1; omega)⟩
  have := own_base_le o2 hbase
  simpa using this
/-- A box below the table's base is written: the table stands, told of an earlier world. -/
theorem StI.restop {w wa wx : World} {t : Nat} {L : List (List Int)} (hka : Kp w wa nob) (h : StI wa wx t L) (b : Nat) (hb0 : w.heap.size ≤ b) (hb1 : b < wa.heap.size) (u : Value) : StI w (wx.setCell ⟨b, 0, none⟩ u) t L := by
  obtain ⟨v, hT, hv⟩ := h.ex
  have hs := hka.size
  have hk3 : Kp wx (wx.setCell ⟨b, 0, none⟩ u) (fun k => k = b) := (Kp.refl _ _).setCell _ _ (fun _ => rfl)
  have hT2 := Tab.kp2 hT hk3 (fun k hk e => by omega)
  obtain ⟨ps, ho, hp⟩ := hT2.own
  refine ⟨⟨v, ⟨by have := hT2.le; omega, hT2.tab, ps, own_base_le ho hs, hp.imp fun _ _ h => h.low hs⟩, fun k hk => by have := hv k hk; omega⟩, by have := h.le; omega, ?_⟩
  exact (hka.trans h.kp (fun _ _ e => e)).setCell ⟨b, 0, none⟩ u (fun hlt => by simp at hlt; omega)
theorem StI.full {w0 w : World} {t : Nat} {L : List (List Int)} (h : StI w0 w t L) : full L := by
  obtain ⟨v, hT, _⟩ := h.ex
  exact fullTI hT
end Go.Proofs.Ytciandflgmmjaaa
