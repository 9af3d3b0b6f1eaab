/- What comes in, opened: a slice of numbers, a slice of deeds, a deed. -/
import Derived.Test.YtciandflgmmjaaaRows
import Derived.Test.YtciandflgmmjaaaBo
import Derived.ProofKit
import Derived.OpenShut
import Derived.ShutString
import Derived.ChangeOld
import Derived.Below
import Derived.Deep.Slices
namespace Go.Proofs.Ytciandflgmmjaaa
set_option linter.unusedVariables false
set_option linter.unusedSimpArgs false
open Go.ChangeShapes Go.WideShapes Go.ChangeAt Go.RowKit
theorem ownT : ownKnob Try.prog.godebug = Option.none := by kernel_rfl
theorem laidT : laidOutB Try.prog = true := by kernel_rfl
section
variable {H : Type} {enc : TypeId × Value → H} {W : World} {fuel : Nat} {x : DataW H × List MemPlace}
theorem open_row {t e : TypeId} {k : IntKind} (ht : Try.prog.underlying t = some (.slice e)) (he : Try.prog.underlying e = some (.int k)) (hc : Try.prog.cellsOf e = 1) {A : Option Addr} {n c : Nat} (h : DataW.trod enc Try.prog W 0 (fun _ => true) true fuel t (Value.slice A n c).cells.toList = some x) :
    ∃ fs : List Int, fs.length = n ∧ (∀ z ∈ fs, (Lit.int k z).wf = true) ∧ Rd W (.slice A fs.length c) (fs.map (Value.int k)) := by
  rcases open_ints ht he hc h with ⟨hcs, _⟩ | ⟨a, l, c', zs, hcs, _, hl, hm, hz, _, hcell, hwz⟩
  · simp [Value.cells] at hcs
    obtain ⟨rfl, rfl, rfl⟩ := hcs
    exact ⟨[], rfl, by simp, Rd.nil W⟩
  · simp [Value.cells] at hcs
    obtain ⟨rfl, rfl, rfl⟩ := hcs
    have hzl : zs.length = c := by simpa using hz
    refine ⟨zs.take n, by rw [List.length_take]; omega, fun z hz => hwz z (List.mem_of_mem_take hz), _, _, by rw [List.length_map], by rw [List.length_map, List.length_take]; omega, hm, fun hp => ?_⟩
    rw [List.length_map, List.length_take] at hp
    obtain ⟨b, off, rfl, hcb⟩ := ints_at hcell (by omega)
    refine ⟨b, off, rfl, fun j u hu => ?_⟩
    rw [List.getElem?_map, List.getElem?_take] at hu
    split at hu
    · rename_i hjn
      have hj : j < zs.length := by omega
      rw [List.getElem?_eq_getElem hj] at hu
      simp only [Option.map_some, Option.some.injEq] at hu
      rw [hcb j hj, ← hu, List.getD_eq_getElem?_getD, List.getElem?_eq_getElem hj]
      rfl
    · simp at hu
theorem open_int3 {cs : List Value} (h : DataW.trod enc Try.prog W 0 (fun _ => true) true fuel 30 cs = some x) :
    ∃ d0 d1 d2 : Int, cs = [.int .i64 d0, .int .i64 d1, .int .i64 d2] ∧ -9223372036854775808 ≤ d0 ∧ d0 ≤ 9223372036854775807 ∧ -9223372036854775808 ≤ d1 ∧ d1 ≤ 9223372036854775807 ∧ -9223372036854775808 ≤ d2 ∧ d2 ≤ 9223372036854775807 := by
  obtain ⟨xs, m, _, _, hlen, hxl, hx⟩ := DataW.trod_array Try.underlying30 h
  rw [show Try.prog.cellsOf 30 = 3 from by kernel_rfl] at hlen
  match cs, hlen with
  | [v0, v1, v2], _ =>
    match xs, hxl with
    | [x0, x1, x2], _ =>
      have e0 := hx 0 (by omega)
      have e1 := hx 1 (by omega)
      have e2 := hx 2 (by omega)
      rw [show Try.prog.cellsOf 3 = 1 from by kernel_rfl] at e0 e1 e2
      obtain ⟨d0, h0, _, w0⟩ := DataW.trod_int Try.underlying3 (x := x0) (by simpa using e0)
      obtain ⟨d1, h1, _, w1⟩ := DataW.trod_int Try.underlying3 (x := x1) (by simpa using e1)
      obtain ⟨d2, h2, _, w2⟩ := DataW.trod_int Try.underlying3 (x := x2) (by simpa using e2)
      have b0 := bounds_i64 w0
      have b1 := bounds_i64 w1
      have b2 := bounds_i64 w2
      simp at h0 h1 h2
      exact ⟨d0, d1, d2, by rw [h0, h1, h2], b0.1, b0.2, b1.1, b1.2, b2.1, b2.2⟩
theorem open_deeds {A : Option Addr} {n c : Nat} (h : DataW.trod enc Try.prog W 0 (fun _ => true) true fuel 23 (Value.slice A n c).cells.toList = some x) : Deeds W A n c := by
  rcases Go.Deep.open_slice Try.underlying23 h with ⟨hcs, _⟩ | ⟨a, l, c', m, _, D, Pl, hcs, _, hl, hm, hmm, _, hx⟩
  · simp [Value.cells] at hcs
    obtain ⟨rfl, rfl, rfl⟩ := hcs
    exact ⟨Nat.le_refl _, by simp [maxLen], fun i hi => by omega⟩
  · simp [Value.cells] at hcs
    obtain ⟨rfl, rfl, rfl⟩ := hcs
    have hm2 : m = c := by simpa using hmm
    refine ⟨hl, hm, fun i hi => ?_⟩
    obtain ⟨cs, h1, h2⟩ := hx i (by omega)
    obtain ⟨d0, d1, d2, rfl, b0, b1, b2, b3, b4, b5⟩ := open_int3 h2
    rw [show Try.prog.cellsOf 30 = 3 from by kernel_rfl] at h1
    obtain ⟨_, _, hc⟩ := World.cells?_some h1
    have e0 := hc 0 (by omega)
    have e1 := hc 1 (by omega)
    have e2 := hc 2 (by omega)
    rw [Addr.add_add] at e0 e1 e2
    obtain ⟨b, off, spot⟩ := a
    have hspot : spot = Option.none := by
      obtain ⟨cs, g1, g2⟩ := hx 0 (by omega)
      obtain ⟨f0, f1, f2, rfl, _⟩ := open_int3 g2
      rw [show Try.prog.cellsOf 30 = 3 from by kernel_rfl] at g1
      obtain ⟨_, _, gc⟩ := World.cells?_some g1
      have g0 := gc 0 (by omega)
      rw [Addr.add_add, Nat.zero_mul, Nat.add_zero] at g0
      have e := World.cell?_spot (v := .int .i64 f0) g0
      simpa [Addr.add] using e
    subst hspot
    rw [add_plain] at e0 e1 e2
    exact ⟨b, off, d0, d1, d2, rfl, b0, b1, b2, b3, b4, b5, by simpa using e0, by simpa [Nat.add_assoc] using e1, by simpa [Nat.add_assoc] using e2⟩
end
end Go.Proofs.Ytciandflgmmjaaa
