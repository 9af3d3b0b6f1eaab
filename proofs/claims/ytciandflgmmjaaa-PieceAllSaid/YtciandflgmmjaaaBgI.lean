/- The table's own steps: a row's clone, put, cut. -/
import Derived.Test.YtciandflgmmjaaaBfI
import Derived.Test.YtciandflgmmjaaaBbI
import Derived.Test.YtciandflgmmjaaaBaI
namespace Go.Proofs.Ytciandflgmmjaaa
set_option linter.unusedVariables false
set_option linter.unusedSimpArgs false
open Go.RowKit
/-- What a table has become; r is what is handed back. -/
def tabToI (w : World) (base t : Nat) (v : Value) (L : List (List Value)) (r : Value) (e : Ending) (w' : World) : Prop :=
  e = .returned r ∧ ∃ v', Tab w' base 68 41 3 t v' L ∧ Kp w w' (fun k => k = t ∨ v.ownBlock = some k) ∧ (v'.ownBlock = v.ownBlock ∨ ∃ b, v'.ownBlock = some b ∧ w.heap.size ≤ b)
/-- Behind a store of a new row into the table: what is known ahead of it. -/
def midToI (w : World) (base t : Nat) (v : Value) (L : List (List Value)) (e : Ending) (w2 : World) : Prop :=
  ∃ A n c, e = .returned (.slice A n c) ∧ w2.cell? ⟨t, 1, none⟩ = some v ∧ w2.frozen? ⟨t, 1, none⟩ = false ∧ tabToI w base t v L (.tuple #[]) (.returned (.tuple #[])) (w2.setCell ⟨t, 1, none⟩ (.slice A n c))
theorem all2_oneI {w : World} {base : Nat} : ∀ {ps : List Value} {L : List (List Value)}, All2 (Piece w base 3) ps L → ∀ p ∈ ps, p.oneCell' = true
  | [], [], _, p, hp => by simp at hp
  | a :: l, b :: m, h, p, hp => by
    rcases List.mem_cons.1 hp with rfl | hp
    · obtain ⟨A, c, rfl, _⟩ := h.1.rd
      rfl
    · exact all2_oneI h.2 p hp
  | [], _ :: _, h, _, _ => h.elim
  | _ :: _, [], h, _, _ => h.elim
/-- A row that has been turned goes back into its table. -/
theorem mid_of_rowI (w w1 : World) (base t : Nat) (v : Value) (L L' : List (List Value)) (ps' : List Value) (h : Tab w base 68 41 3 t v L) (hk1 : Kp w w1 nob) (hp : ∀ w2, Kp w1 w2 (fun k => v.ownBlock = some k) → All2 (Piece w2 base 3) ps' L') (e : Ending) (w2 : World)
    (hr : rowToI w1 base v ps' e w2) : midToI w base t v L' e w2 := by
  obtain ⟨v', rfl, ho, hk, hv⟩ := hr
  have hpl := (hp w2 hk).length
  obtain ⟨A', c', rfl, hnc, _⟩ := own_slice ho
  obtain ⟨ps, how, hpw⟩ := h.own
  have hkk : Kp w w2 (fun k => v.ownBlock = some k) := (hk1.mono (fun _ _ e => e.elim)).trans hk (fun _ _ e => e)
  have htv : ∀ b, v.ownBlock = some b → t ≠ b := fun b hb => by
    obtain ⟨_, cur, hc⟩ := own_ty how b hb
    exact ty_ne h.tab hc (by decide)
  have htab2 := hkk.heap h.tab (fun e => htv t e rfl)
  have htv' : t ≠ t → False := fun e => e rfl
  refine ⟨A', ps'.length, c', rfl, ?_, frozen_of_row w2 t 1 _ _ htab2, rfl, .slice A' ps'.length c', ?_, ?_, ?_⟩
  · rw [cell_of_row w2 t 1 _ _ _ htab2]; rfl
  · have hk3 : Kp w2 (w2.setCell ⟨t, 1, none⟩ (.slice A' ps'.length c')) (fun k => k = t) := (Kp.refl _ _).setCell _ _ (fun _ => rfl)
    refine ⟨h.le, ?_, ps', ?_, ?_⟩
    · simp [World.setCell, Array.getElem?_modify, htab2]
    · rw [← hpl]
      refine own_kp ho hk3 (fun b hb => ?_)
      obtain ⟨_, cur, hc⟩ := own_ty ho b hb
      exact (ty_ne htab2 hc (by decide)).symm
    · exact (hp w2 hk).imp fun _ _ h => h.kp hk3 (fun b cur fr hh => (ty_ne htab2 hh (by decide)).symm)
  · exact (hkk.mono (fun _ _ e => .inr e)).setCell _ _ (fun _ => .inl rfl)
  · rcases hv with hv | ⟨b, hb, hle⟩
    · exact .inl hv
    · exact .inr ⟨b, hb, Nat.le_trans hk1.size hle⟩
set_option maxHeartbeats 1000000 in
theorem put_okI (w : World) (base t : Nat) (v : Value) (L : List (List Value)) (i : Nat) (u : Value) (xs : List Value) (h : Tab w base 68 41 3 t v L) (hu : Rd w u xs) (h1 : ∀ u ∈ xs, u.oneCell' = true) (hx : xs.length ≤ 1000000) (hi : i ≤ L.length) (hl : L.length ≤ 1000000) (hb : base ≤ w.heap.size) :
    Calls Try.prog 34 #[.pointer (some ⟨t, 0, none⟩), .int .i64 i, u] w (tabToI w base t v (if xs = [] then L else L.take i ++ xs :: L.drop i) (.tuple #[])) := by
  obtain ⟨A, c, rfl⟩ := hu.shape
  by_cases h0 : xs = []
  · subst h0
    have H := Lib.hid h
    clear h hu
    rw [if_pos rfl]
    go_enter Try.func34, Try.ntmps34
    go_wp2
    go_end0
    exact ⟨rfl, v, H.out, Kp.refl _ _, .inl rfl⟩
  · rw [if_neg h0]
    have hpos : 0 < xs.length := by
      rcases Nat.eq_zero_or_pos xs.length with hz | hz
      · exact absurd (List.eq_nil_of_length_eq_zero hz) h0
      · exact hz
    have hc1 := h.cell1
    have hxw : xs.length * 8 ≤ 140737488355328 := by omega
    have hud : Rd w.drew (.slice A xs.length c) xs := hu
    have hc1d : w.drew.cell? ⟨t, 1, none⟩ = some v := hc1
    have hins : ∀ w1 A1 c1, w1.ownsRow w.drew.heap.size 3 1 (.slice A1 xs.length c1) xs.length xs → Kp w.drew w1 nob →
        Calls Try.prog 44 #[v, .int .i64 i, .slice (some ⟨w1.heap.size, 0, none⟩) 1 1] (w1.alloc (.cells #[.slice A1 xs.length c1] 41)) (midToI w base t v (L.take i ++ xs :: L.drop i)) := by
      intro w1 A1 c1 hown1 hk1
      obtain ⟨ps, ho, hp⟩ := h.own
      have hlen := hp.length
      have hk2 : Kp w (w1.alloc (.cells #[.slice A1 xs.length c1] 41)) nob := (((Kp.refl w nob).drew).trans hk1 (fun _ _ e => e)).alloc _
      have hpc : Piece w1 base 3 (.slice A1 xs.length c1) xs := ⟨Rd.of_own hown1, h0, fun b hb => by
        obtain ⟨_, cur, hc⟩ := own_ty hown1 b hb
        refine ⟨?_, cur, _, hc⟩
        have h3 := (own_ty hown1 b hb).1
        have h4 : w.drew.heap.size = w.heap.size := rfl
        omega⟩
      have := insert_okI (w1.alloc (.cells #[.slice A1 xs.length c1] 41)) base v ps i w1.heap.size (.slice A1 xs.length c1) (by rw [hlen]; exact own_kp ho hk2 (fun _ _ e => e)) (heap_alloc_new _ _) rfl (all2_oneI hp)
        (fun e => by have h3 := own_ty ho _ e; obtain ⟨_, cur, hc⟩ := h3; have := (Array.getElem?_eq_some_iff.1 hc).1; have := hk1.size; simp at this; omega) (by have := hk2.size; omega) (by omega) (by omega)
      refine this.mono fun e w2 hr => mid_of_rowI w _ base t v L _ _ h hk2 (fun w3 hk3 => ?_) e w2 hr
      have hnb : ∀ b cur fr, (w1.alloc (.cells #[.slice A1 xs.length c1] 41)).heap[b]? = some (.cells cur 3 fr) → ¬ (v.ownBlock = some b) := fun b cur fr hh e => by
        obtain ⟨_, cur', hc⟩ := own_ty (own_kp ho hk2 (fun _ _ e => e)) b e
        exact ty_ne hh hc (by decide) rfl
      have hall : All2 (Piece w3 base 3) ps L := hp.imp fun _ _ hp => (hp.kp hk2 (fun _ _ _ _ e => e)).kp hk3 hnb
      have hnew : Piece w3 base 3 (.slice A1 xs.length c1) xs := (hpc.kp ((Kp.refl w1 nob).alloc _) (fun _ _ _ _ e => e)).kp hk3 hnb
      exact All2.append (hall.take i) ⟨hnew, hall.drop i⟩
    have HI := Lib.hid hins
    clear hins h
    go_enter Try.func34, Try.ntmps34
    go_wp2
    go_region_with (first | (go_at_call 45; refine (clone_okI _ _ xs hud h1 hxw).mono ?_; rintro e w1 ⟨u1, rfl, hown1, hk1⟩; have hc1' := hk1.cell (p := ⟨t, 1, none⟩) hc1d id; have hlt1 : t < w1.heap.size := block_lt_of_cell hc1'; obtain ⟨A1, c1, rfl, _, _⟩ := own_slice hown1; have HO := Lib.hid hown1; clear hown1) | (go_at_call 44; refine (HI.out _ _ _ HO.out hk1).mono ?_; rintro e w2 ⟨A2, n2, c2, rfl, hc2, hf2, hfin⟩; have HF := Lib.hid hfin; clear hfin))
    all_goals
      go_wp2
      go_end0
      exact HF.out
end Go.Proofs.Ytciandflgmmjaaa
