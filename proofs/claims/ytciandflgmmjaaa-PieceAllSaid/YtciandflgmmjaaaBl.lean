/- The law's helpers: deed, tells, works. -/
import Derived.Test.YtciandflgmmjaaaBkB
import Derived.Test.YtciandflgmmjaaaBc
import Derived.Deep.OwnRows
import Derived.Laws.BytesArg
import Derived.Lib.SlBytesConst
namespace Go.Proofs.Ytciandflgmmjaaa
set_option linter.unusedVariables false
set_option linter.unusedSimpArgs false
open Go.RowKit
def deedA (d0 n : Int) : Int := bring d0 (n + 1)
def deedB (d0 d1 n : Int) : Int := deedA d0 n + bring d1 (n - deedA d0 n + 1)
def deedX (d2 : Int) (i : Nat) : Int := IntKind.u8.wrap (wrap64 (d2 + i))
def deedW (d2 : Int) : List Int := (List.range (bring d2 5).toNat).map (deedX d2)
theorem deedW_len (d2 : Int) : (deedW d2).length ≤ 4 := by
  have := bring_range d2 5 (by omega)
  simp [deedW]
  omega
theorem deed_range (d0 d1 n : Int) (hn : 0 ≤ n) : 0 ≤ deedA d0 n ∧ deedA d0 n ≤ deedB d0 d1 n ∧ deedB d0 d1 n ≤ n := by
  have h1 := bring_range d0 (n + 1) (by omega)
  have h2 := bring_range d1 (n - deedA d0 n + 1) (by unfold deedA; omega)
  unfold deedB
  unfold deedA at *
  omega
/-- What deed hands back. -/
def deedTo (w : World) (d0 d1 d2 n : Int) (e : Ending) (w' : World) : Prop :=
  ∃ u, e = .returned (.tuple #[.int .i64 (deedA d0 n), .int .i64 (deedB d0 d1 n), u]) ∧ w'.ownsRow w.heap.size 5 1 u (deedW d2).length ((deedW d2).map (Value.int .u8)) ∧ Kp w w' nob
set_option maxHeartbeats 1000000 in
theorem deed_ok (w : World) (d0 d1 d2 n : Int) (hn : 0 ≤ n) (hn2 : n ≤ 1000000) (h0 : -9223372036854775808 ≤ d0) (h0' : d0 ≤ 9223372036854775807) (h1 : -9223372036854775808 ≤ d1) (h1' : d1 ≤ 9223372036854775807) (h2 : -9223372036854775808 ≤ d2) (h2' : d2 ≤ 9223372036854775807) :
    Calls Try.prog 13 #[.agg #[.int .i64 d0, .int .i64 d1, .int .i64 d2], .int .i64 n] w (deedTo w d0 d1 d2 n) := by
  have r0 := bring_range d0 (n + 1) (by omega)
  have r1 := deed_range d0 d1 n hn
  obtain ⟨k, hk⟩ : ∃ k : Nat, (k : Int) = bring d2 5 := ⟨(bring d2 5).toNat, by have := bring_nonneg d2 5; omega⟩
  have hk4 : k ≤ 4 := by have := bring_range d2 5 (by omega); omega
  have hmk := fun (w : World) => run_make_row' (P := Try.prog) 22 5 (.int .u8 0) 1 Try.underlying22 infoB rfl .i64 .i64 k (by omega) (by omega) w
  have HK := Lib.hid hk
  have hA : bring d0 (n + 1) = deedA d0 n := rfl
  have HA := Lib.hid hA
  have hB : deedA d0 n + bring d1 (n - deedA d0 n + 1) = deedB d0 d1 n := rfl
  have HB := Lib.hid hB
  have rb := bring_range d1 (n - deedA d0 n + 1) (by omega)
  clear hk hA hB
  go_enter Try.func13, Try.ntmps13
  go_wp2_with fail
  refine (bring_ok _ _ _ h0 h0' (by omega)).mono ?_
  rintro e w1 ⟨rfl, rfl⟩
  rw [HA.out] at *
  go_wp2_with fail
  refine (bring_ok _ _ _ h1 h1' (by omega)).mono ?_
  rintro e w1 ⟨rfl, rfl⟩
  go_wp2_with fail
  refine (bring_ok _ _ _ h2 h2' (by omega)).mono ?_
  rintro e w1 ⟨rfl, rfl⟩
  rw [← HK.out]
  go_wp2_with fail
  clear hmk
  go_loopw [10] (fun i wr => ∃ j : Nat, j ≤ k ∧ i = .int .i64 j ∧ Hid (wr.ownsRow w.heap.size 5 1 (.slice (some ⟨w.heap.size + 1, 0, none⟩) k k) k ((((List.range j).map (deedX d2)) ++ List.replicate (k - j) 0).map (Value.int .u8))) ∧ wr.cell? ⟨w.heap.size, 2, none⟩ = some (.int .i64 d2) ∧ Kp w wr nob) (fun i _ => k - (intOf i).toNat)
  case atStart =>
    refine ⟨0, Nat.zero_le _, rfl, ?_, ?_, ((Kp.refl w nob).alloc _).alloc _⟩
    · have h := World.ownsRow_lit (base := w.heap.size) (e := 5) (size := 1) (w.alloc (.cells #[.int .i64 d0, .int .i64 d1, .int .i64 d2] 30)) (madeCells #[.int .u8 0] k) k (by simp) (by unfold maxLen; omega) (by simp [size_madeCells])
      rw [toList_madeCells_one] at h
      show World.ownsRow _ _ _ _ _ _ _
      simpa using h
    · simp [go_sem]
  case round =>
    obtain ⟨j, hj, rfl, ho, hc2, hkp⟩ := hrel
    by_cases hlt : j < k
    · have hcell := ho.out.cellAt j (by omega)
      have hlen : ((((List.range j).map (deedX d2)) ++ List.replicate (k - j) 0).map (Value.int .u8))[j]? = some (.int .u8 0) := by
        simp only [List.getElem?_map]
        rw [List.getElem?_append_right (by simp)]
        simp only [List.length_map, List.length_range, Nat.sub_self, List.getElem?_replicate]
        rw [if_pos (by omega)]
        rfl
      rw [hlen] at hcell
      have hfr := ho.out.frozenAt j
      have hst := ho.out.stored j (.int .u8 (deedX d2 j))
      have hnext : ((((List.range j).map (deedX d2)) ++ List.replicate (k - j) 0).map (Value.int .u8)).set j (.int .u8 (deedX d2 j)) = (((List.range (j + 1)).map (deedX d2)) ++ List.replicate (k - (j + 1)) 0).map (Value.int .u8) := by
        apply List.ext_getElem?
        intro m
        simp only [List.getElem?_set, List.getElem?_map, List.length_map, List.length_append, List.length_range, List.length_replicate]
        by_cases hm : j = m
        · subst hm
          rw [if_pos rfl, if_pos (by omega), List.getElem?_append_left (by simp)]
          simp
        · rw [if_neg hm]
          by_cases hm2 : m < j
          · rw [List.getElem?_append_left (by simp; omega), List.getElem?_append_left (by simp; omega)]
            simp [List.getElem?_range, hm2, show m < j + 1 by omega]
          · rw [List.getElem?_append_right (by simp; omega), List.getElem?_append_right (by simp; omega)]
            simp only [List.length_map, List.length_range, List.getElem?_replicate]
            congr 1
            by_cases hm3 : m < k
            · rw [if_pos (by omega), if_pos (by omega)]
            · rw [if_neg (by omega), if_neg (by omega)]
      rw [hnext] at hst
      have hx : deedX d2 j = IntKind.u8.wrap (wrap64 (d2 + j)) := rfl
      have HX := Lib.hid hx
      have HS := Lib.hid hst
      clear hst hnext hlen hx
      go_wp2
      go_roundw
      case rel =>
        refine ⟨j + 1, by omega, by go_num, HS.out.1, ?_, hkp.setCell _ _ (fun h => by simp at h; omega)⟩
        rw [World.cell?_setCell_other _ _ _ _ (by simp)]
        exact hc2
      case measure => simp [intOf]; omega
    · have hjk : j = k := by omega
      subst hjk
      have hr : deedW d2 = (List.range j).map (deedX d2) := by
        unfold deedW
        rw [← HK.out, Int.toNat_natCast]
      have ho2 := ho.out
      rw [Nat.sub_self, List.replicate_zero, List.append_nil, ← hr] at ho2
      have hl : (deedW d2).length = j := by rw [hr]; simp
      have hfin : deedTo w d0 d1 d2 n (.returned (.tuple #[.int .i64 (deedA d0 n), .int .i64 (deedA d0 n + bring d1 (n - deedA d0 n + 1)), .slice (some ⟨w.heap.size + 1, 0, none⟩) j j])) wr := by
        refine ⟨_, ?_, by rw [hl]; exact ho2, hkp⟩
        rw [HB.out]
      have HF := Lib.hid hfin
      clear hfin ho2 hl hr
      go_wp2
      go_ret3
      exact HF.out
/-- The same, told of natural numbers. -/
def deedN (w : World) (d0 d1 d2 : Int) (n : Nat) (e : Ending) (w' : World) : Prop :=
  ∃ (a b : Nat) (u : Value), e = .returned (.tuple #[.int .i64 a, .int .i64 b, u]) ∧ a = (deedA d0 n).toNat ∧ b = (deedB d0 d1 n).toNat ∧ a ≤ b ∧ b ≤ n ∧ w'.ownsRow w.heap.size 5 1 u (deedW d2).length ((deedW d2).map (Value.int .u8)) ∧ Kp w w' nob
theorem deedN_ok (w : World) (d0 d1 d2 : Int) (n : Nat) (hn2 : n ≤ 1000000) (h0 : -9223372036854775808 ≤ d0) (h0' : d0 ≤ 9223372036854775807) (h1 : -9223372036854775808 ≤ d1) (h1' : d1 ≤ 9223372036854775807) (h2 : -9223372036854775808 ≤ d2) (h2' : d2 ≤ 9223372036854775807) :
    Calls Try.prog 13 #[.agg #[.int .i64 d0, .int .i64 d1, .int .i64 d2], .int .i64 n] w (deedN w d0 d1 d2 n) := by
  have hr := deed_range d0 d1 n (by omega)
  refine (deed_ok w d0 d1 d2 n (by omega) (by omega) h0 h0' h1 h1' h2 h2').mono ?_
  rintro e w' ⟨u, rfl, h3, h4⟩
  refine ⟨_, _, u, ?_, rfl, rfl, by omega, by omega, h3, h4⟩
  rw [Int.toNat_of_nonneg (by omega), Int.toNat_of_nonneg (by omega)]
theorem run_string_row (w : World) (base : Nat) (v : Value) (xs : List Int) (h : w.ownsRow base 5 1 v xs.length (xs.map (Value.int .u8))) : (convert 22 9 v).run Try.prog w = .ok (.string (strOfNums xs)) w := by
  rcases h.2 with ⟨rfl, h0⟩ | ⟨g, cap, cur, rfl, _⟩
  · obtain rfl := List.eq_nil_of_length_eq_zero h0
    exact run_convert_bytes_nil w 22 5 Try.underlying22 Try.underlying5 0 0 9 Try.underlying9
  · refine run_convert_bytes_arg w 22 5 Try.underlying22 Try.underlying5 g 0 xs.length cap xs rfl (fun i hi => ?_) 9 Try.underlying9
    have hc := h.cells (g := g) rfl i (.int .u8 (xs.getD i 0)) (by rw [List.getElem?_map, List.getElem?_eq_getElem hi, List.getD_eq_getElem?_getD, List.getElem?_eq_getElem hi]; rfl)
    rwa [add_plain] at hc
/-- It answers true, and leaves all as it was. -/
def yes (w : World) (e : Ending) (w' : World) : Prop := e = .returned (.bool true) ∧ Kp w w' nob
abbrev TabB (w : World) (base t : Nat) (v : Value) (L : List (List Int)) : Prop := Tab w base 61 22 5 t v (L.map (List.map (Value.int .u8)))
theorem Tab.kp0 {w w' : World} {base TT PT E t : Nat} {v : Value} {L : List (List Value)} (h : Tab w base TT PT E t v L) (hk : Kp w w' nob) : Tab w' base TT PT E t v L := h.kp hk id (fun _ _ e => e) (fun _ _ _ _ e => e)
set_option maxHeartbeats 1000000 in
theorem tells_true (w : World) (base t : Nat) (v : Value) (L : List (List Int)) (h : TabB w base t v L) (hL : lens L ≤ 1000000) (want : ByteArray) (hw : want = strOfNums L.flatten) (hp : L.length ≤ 1000000) :
    Calls Try.prog 27 #[.pointer (some ⟨t, 0, none⟩), .string want, .int .i64 L.length] w (yes w) := by
  have hlen := len_tabB w base t v _ h (by rw [lens_map]; exact hL)
  rw [lens_map] at hlen
  have hsl := slice_goodB w base t v L 0 (lens L) h hL (Nat.zero_le _) (Nat.le_refl _)
  rw [List.drop_zero, show L.flatten.take (lens L) = L.flatten from List.take_length, show ((0 : Nat) : Int) = 0 from rfl] at hsl
  have hsz : want.size = lens L := by rw [hw, strOfNums_size]; rfl
  have heq : ((strOfNums L.flatten).toList == want.toList) = true := by rw [hw]; simp
  have H := Lib.hid h
  have HS := Lib.hid hsl
  have HN := Lib.hid hlen
  have HZ := Lib.hid hsz
  have HQ := Lib.hid heq
  obtain ⟨R, hR⟩ : ∃ R, R = L.flatten := ⟨_, rfl⟩
  have hRl : R.length = lens L := by rw [hR]; rfl
  rw [← hR] at HS HQ
  have HRl := Lib.hid hRl
  clear hsl hlen hsz heq h hw hR hRl
  go_enter Try.func27, Try.ntmps27
  go_wp2_with fail
  refine HN.out.mono ?_
  rintro e w1 ⟨rfl, rfl⟩
  go_wp2_with fail
  refine HS.out.mono ?_
  rintro e w2 ⟨u, rfl, ho, hk⟩
  have hcv := run_string_row w2 _ u R ho
  have hT2 := H.out.kp0 hk
  have hpc := pieces_okB w2 base t v _ hT2
  have hln := len_tabB w2 base t v _ hT2 (by rw [lens_map]; exact hL)
  rw [lens_map] at hln
  rw [List.length_map] at hpc
  obtain ⟨A, c, rfl, _, _⟩ := own_slice ho
  have hq := HQ.out
  have HPC := Lib.hid hpc
  have HLN := Lib.hid hln
  have hsz := HZ.out
  have e1 : ((L.length : Int) == (L.length : Int)) = true := by simp
  have e2 : ((lens L : Int) == (lens L : Int)) = true := by simp
  clear ho hT2 hpc hln
  go_wp2_with fail
  refine HPC.out.mono ?_
  rintro e w3 ⟨rfl, rfl⟩
  go_wp2_with fail
  refine HLN.out.mono ?_
  rintro e w3 ⟨rfl, rfl⟩
  go_wp2
  go_ret
  exact ⟨rfl, hk⟩
end Go.Proofs.Ytciandflgmmjaaa
