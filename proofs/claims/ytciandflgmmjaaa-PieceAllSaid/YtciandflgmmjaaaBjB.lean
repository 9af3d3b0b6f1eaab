/- The table's iterator: All and its closure, as a sequence that may be stopped. -/
import Derived.Test.YtciandflgmmjaaaBiB
import Derived.RangeFuncNested
import Derived.RangeFuncBound
import Derived.RangeFuncLeaves
import Derived.Shelf.Abstract
import Derived.Shelf.RegionOpen
import Derived.OwnWalkIn
import Derived.TacticsInMore
import Derived.LoopNIn
import Derived.LoopIn
namespace Go.Proofs.Ytciandflgmmjaaa
set_option linter.unusedVariables false
set_option linter.unusedSimpArgs false
open Go.RowKit Go.Shelf
attribute [local go_sem] Oper.semAt_some
theorem below_cellB {w W : World} (h : Below w.heap.size w W) {p : Addr} {v : Value} (hv : w.cell? p = some v) : W.cell? p = some v := (h.cell (World.block_lt_of_cell? w p hv)).trans hv
set_option maxHeartbeats 400000 in
theorem all_okB (w : World) (t : Nat) : Calls Try.prog 28 #[.pointer (some ⟨t, 0, none⟩)] w fun e w' => e = .returned (.func (.func 40) #[] #[.pointer (some ⟨w.heap.size, 0, none⟩)]) ∧ w.alloc (.cells #[.pointer (some ⟨t, 0, none⟩)] 25) = w' := by
  go_enter Try.func28, Try.ntmps28
  go_wp2
  go_ret
  exact ⟨rfl, rfl⟩
theorem flat_takeB {α : Type} (L : List (List α)) (k : Nat) (p : List α) (h : L[k]? = some p) : (L.take (k + 1)).flatten = (L.take k).flatten ++ p := by
  rw [List.take_add_one, h]
  simp
set_option maxRecDepth 100000 in
set_option maxHeartbeats 2000000 in
/-- The closure: all elements, in order, as long as a round goes on. -/
theorem all1_inB (n : Nat) (hn : 2 ≤ n) (l bx : Nat) (w : World) (base t : Nat) (v : Value) (L : List (List Int)) (h : Tab w base 61 22 5 t v (L.map (List.map (Value.int .u8)))) (hL : lens L ≤ 1000000)
    (J Jx : List Int → World → Prop)
    (hY : ∀ pre x W, J pre W → pre.length < lens L → YieldAt Fence.wide (n - 1) Try.prog l #[.int .u8 x] W fun e W' =>
      (e = .returned (.bool true) ∧ J (pre ++ [x]) W' ∧ Below w.heap.size W W') ∨ (e = .returned (.bool false) ∧ Jx (pre ++ [x]) W'))
    (W : World) (hW : Below w.heap.size w W) (hbx' : W.cell? ⟨bx, 0, none⟩ = some (.pointer (some ⟨t, 0, none⟩))) (h0 : J [] W) :
    CallsIn Fence.wide n Try.prog 40 #[.func (.yield l) #[] #[], .pointer (some ⟨bx, 0, none⟩)] W fun e W' => (∃ v, e = .returned v) ∧
      ((∃ ys, ys = L.flatten ∧ J ys W') ∨ (∃ pre, pre <+: L.flatten ∧ Jx pre W')) := by
  have hc0 := h.cell0
  have hc1 := h.cell1
  have hc0' := below_cellB hW hc0
  have hc1' := below_cellB hW hc1
  have H := Lib.hid h
  obtain ⟨ps, ho, _⟩ := h.own
  obtain ⟨A, c, rfl, hnc, hcm⟩ := own_slice ho
  rw [List.length_map] at hc1' hc1 hnc
  have hLl : L.length ≤ c := hnc
  rw [List.length_map] at H
  clear h ho hc0 hc1
  refine callsIn_of_wp Try.func40 rfl trivial ?_ rfl
  simp only [Try.ntmps40, List.size_toArray, List.length_cons, List.length_nil, Nat.reduceAdd, Nat.reduceSub, Array.replicate_succ, Array.replicate_zero, List.push_toArray, List.append_toArray, List.nil_append, List.cons_append]
  have h1n : 1 ≤ n := by omega
  have hdl : L.length ≤ 9223372036854775807 := by omega
  gi_wp2_with (refine ⟨trivial, ?_⟩; gi_at_call 30; refine (callsIn_wide.2 (none_ptrB _ _ _ hc0')).mono ?_; rintro e w' ⟨rfl, rfl⟩)
  gi_loopw [14] (fun i wr => ∃ k : Nat, k ≤ L.length ∧ i = .int .i64 k ∧ J (L.take k).flatten wr ∧ Below w.heap.size w wr) (fun i _ => L.length - (intOf i).toNat)
  case atStart => exact ⟨0, Nat.zero_le _, rfl, by simpa using h0, hW⟩
  case round =>
    obtain ⟨k, hk, rfl, hJ, hkn⟩ := hrel
    by_cases hlt : k < L.length
    · have hLk : (L.map (List.map (Value.int .u8)))[k]? = some (L[k].map (Value.int .u8)) := by rw [List.getElem?_map, List.getElem?_eq_getElem hlt]; rfl
      have hp := H.out.piece hLk
      obtain ⟨g, u, rfl, hcell, hpc⟩ := hp
      obtain ⟨A', c', rfl⟩ := hpc.rd.shape
      have hcell' := below_cellB hkn hcell
      obtain ⟨_, hcc1, hcc2, hat⟩ := hpc.rd.at_
      rw [List.length_map] at hcell' hat hcc1
      have hcc2 : c' ≤ 9223372036854775807 := by simpa [maxLen] using hcc2
      have hft := flat_takeB L k _ (List.getElem?_eq_getElem hlt)
      have hlk := lens_take_succ L k _ (List.getElem?_eq_getElem hlt)
      have hlk2 := lens_take_le L (k + 1)
      have hpl : L[k].length ≤ 1000000 := by omega
      have HFT := Lib.hid hft
      have HLK := Lib.hid hlk
      have HHAT := Lib.hid hat
      clear hcell hpc hft hlk hat
      gi_wp2
      obtain ⟨wo, rfl⟩ : ∃ wo : World, wo = wr := ⟨_, rfl⟩
      gi_loopw [20] (fun i wi => ∃ j : Nat, j ≤ L[k].length ∧ i = .int .i64 j ∧ J ((L.take k).flatten ++ L[k].take j) wi ∧ Below w.heap.size w wi) (fun i _ => L[k].length - (intOf i).toNat)
      case atStart => exact ⟨0, Nat.zero_le _, rfl, by simpa using hJ, hkn⟩
      case round =>
        obtain ⟨j, hj, rfl, hJ2, hkn2⟩ := hrel
        by_cases hjl : j < L[k].length
        · obtain ⟨pb, po, u, rfl, hu, hcu⟩ := HHAT.out j hjl
          have hue : u = .int .u8 (L[k])[j] := by
            rw [List.getElem?_map, List.getElem?_eq_getElem hjl] at hu
            simpa using hu.symm
          subst hue
          have hcu' := below_cellB hkn2 hcu
          have hlen : ((L.take k).flatten ++ L[k].take j).length < lens L := by
            rw [List.length_append, List.length_take]
            have h1 := HLK.out
            have h2 : (L.take k).flatten.length = lens (L.take k) := rfl
            omega
          have hyy := hY _ (L[k])[j] wr hJ2 hlen
          obtain ⟨fn, tmps, assign, body, hy, hR⟩ := hyy
          have hsn : L[k].take (j + 1) = L[k].take j ++ [(L[k])[j]] := List.take_succ_eq_append_getElem hjl
          have HSN := Lib.hid hsn
          clear hsn hlen hcu hu
          gi_wp2
          refine hR.mono ?_
          rintro e W3 (⟨rfl, hJ3, hk3⟩ | ⟨rfl, hJx3⟩)
          · gi_wp2
            go_roundw
            case rel => exact ⟨j + 1, by omega, by go_num, by rw [HSN.out, ← List.append_assoc]; exact hJ3, hkn2.trans hk3⟩
            case measure => simp [intOf]; omega
          · gi_wp2
            refine bodyPost_ret (results_none rfl _ _ _) rfl ?_
            refine ⟨⟨_, rfl⟩, .inr ⟨_, ?_, hJx3⟩⟩
            rw [List.append_assoc, ← HSN.out]
            have e1 : L.flatten = (L.take (k + 1)).flatten ++ (L.drop (k + 1)).flatten := by rw [← List.flatten_append, List.take_append_drop]
            rw [e1, HFT.out]
            exact ⟨L[k].drop (j + 1) ++ (L.drop (k + 1)).flatten, by rw [List.append_assoc, ← List.append_assoc (L[k].take (j + 1)), List.take_append_drop, List.append_assoc]⟩
        · have hjl' : j = L[k].length := by omega
          subst hjl'
          gi_wp2
          go_roundw
          case rel => exact ⟨k + 1, by omega, by go_num, by rw [HFT.out]; rwa [List.take_length] at hJ2, hkn2⟩
          case measure => simp [intOf]; omega
    · have hkl : k = L.length := by omega
      subst hkl
      gi_wp2
      go_end0
      exact ⟨⟨_, rfl⟩, .inl ⟨_, rfl, by rwa [List.take_length] at hJ⟩⟩
theorem all_stopsB (n : Nat) (hn : 2 ≤ n) (w ws : World) (base t bx : Nat) (v : Value) (L : List (List Int)) (h : Tab w base 61 22 5 t v (L.map (List.map (Value.int .u8)))) (hL : lens L ≤ 1000000)
    (hws : Below w.heap.size w ws) (hbx : ws.cell? ⟨bx, 0, none⟩ = some (.pointer (some ⟨t, 0, none⟩))) :
    SeqStopsK Fence.wide n Try.prog 40 #[.pointer (some ⟨bx, 0, none⟩)] (fun x : Int => #[Value.int .u8 x]) (Below w.heap.size) (fun ys => ys = L.flatten) (fun pre => pre <+: L.flatten) (lens L) ws := fun l J Jx W hW _ _ hY h0 =>
  all1_inB n hn l bx w base t v L h hL J Jx hY W (hws.trans (hW.mono hws.size)) (below_cellB hW hbx) h0
end Go.Proofs.Ytciandflgmmjaaa
