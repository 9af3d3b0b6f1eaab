/- Boxes of variables beside a row that grows, for the body of a loop over an iterator. -/
import Derived.Test.YtciandflgmmjaaaWb
import Derived.RangeFuncNested
import Derived.RangeFuncBox
namespace Go.Proofs.Ytciandflgmmjaaa
set_option linter.unusedVariables false
set_option linter.unusedSimpArgs false
open Go.RowKit
/-- Behind an append onto a row that lies at or beyond n0: boxes ahead of n0 are as they were. -/
theorem box_append {W w1 : World} {n0 e k : Nat} {v : Value} {xs : List Value} {tmp : Obj} (hrow : W.ownsRow n0 e 1 v k xs) (hgrow : (W.alloc tmp).grownBy w1 v.ownBlock) :
    (∀ B t u, B < n0 → Boxed W B t u → Boxed w1 B t u) ∧ KeepsOthers W w1 ∧ ∀ m, m ≤ n0 → m ≤ W.heap.size → Below m W w1 := by
  have hb : ∀ b, v.ownBlock = some b → n0 ≤ b := fun b hb => (own_ty hrow b hb).1
  refine ⟨fun B t u hB h => (h.alloc tmp).kept hgrow (fun e => by have := hb B e.symm; omega), ?_, fun m hm hs => ?_⟩
  · refine (KeepsOthers.alloc W tmp).trans (KeepsOthers.of_grownBy hgrow fun j o ej hj => ?_)
    obtain ⟨_, cur, hc⟩ := own_ty (hrow.alloc tmp) j ej
    rw [hc] at hj
    cases hj
    rfl
  · exact ((Below.refl m W).alloc hs tmp).grown hgrow (by simp; omega) (fun j ej => by have := hb j ej; omega)
theorem own_box {W : World} {n0 e k B : Nat} {v u : Value} {xs : List Value} (h : W.ownsRow n0 e 1 v k xs) (hB : B < n0) : (W.setCell ⟨B, 0, none⟩ u).ownsRow n0 e 1 v k xs :=
  h.kept (grownBy_setCell' W B u) (by
    rcases hv : v.ownBlock with _ | b
    · exact .inl rfl
    · refine .inr fun e => ?_
      have := (own_ty h b hv).1
      injection e with e
      omega)
theorem own_base_le {w : World} {b b' : Nat} {e : TypeId} {v : Value} {n : Nat} {xs : List Value} (h : w.ownsRow b e 1 v n xs) (hb : b' ≤ b) : w.ownsRow b' e 1 v n xs := by
  refine ⟨h.1, h.2.imp id ?_⟩
  rintro ⟨g, cap, cur, h1, h2, h3⟩
  exact ⟨g, cap, cur, h1, by omega, h3⟩
end Go.Proofs.Ytciandflgmmjaaa
