/- The chapter's table: works answers true. -/
import Derived.Test.YtciandflgmmjaaaBl
import Derived.Test.YtciandflgmmjaaaBmB
namespace Go.Proofs.Ytciandflgmmjaaa
set_option linter.unusedVariables false
set_option linter.unusedSimpArgs false
open Go.RowKit
theorem fresh_rd (w : World) (C : Array Value) (e : TypeId) (fr : Nat × Nat) (n c : Nat) (hc : C.size = n) (hnc : n ≤ c) (hm : c ≤ 1000000) : Rd (w.alloc (.cells C e fr)) (.slice (some ⟨w.heap.size, 0, none⟩) n c) C.toList := by
  refine ⟨_, c, by rw [Array.length_toList, hc], by rw [Array.length_toList, hc]; exact hnc, by unfold maxLen; omega, fun _ => ⟨w.heap.size, 0, rfl, fun j u hu => ?_⟩⟩
  rw [Nat.zero_add, cell_of_row (w.alloc (.cells C e fr)) w.heap.size j C e fr (heap_alloc_new w _)]
  simpa using hu
theorem TI_lt {w : World} {base t : Nat} {v : Value} {L : List (List Int)} (h : TIB w base t v L) : t < w.heap.size ∧ ∀ b, v.ownBlock = some b → b < w.heap.size := by
  obtain ⟨ps, ho, _⟩ := h.own
  exact ⟨(Array.getElem?_eq_some_iff.1 h.tab).1, fun b hb => by
    obtain ⟨_, cur, hc⟩ := own_ty ho b hb
    exact (Array.getElem?_eq_some_iff.1 hc).1⟩
/-- A replacement by a constant, the constant's block having just been laid. -/
theorem rep_const (w : World) (base t : Nat) (v : Value) (L : List (List Int)) (a b : Nat) (xs : List Int) (fr : Nat × Nat) (h : TIB w base t v L) (hL : lens L ≤ 1000000) (hl : L.length ≤ 900000) (hab : a ≤ b) (hbl : b ≤ lens L) (hx : xs.length ≤ 1000000) (hb : base ≤ w.heap.size) :
    Calls Try.prog 14 #[.pointer (some ⟨t, 0, none⟩), .int .i64 a, .int .i64 b, .slice (some ⟨w.heap.size, 0, none⟩) xs.length xs.length] (w.alloc (.cells (xs.map (Value.int .u8)).toArray 5 fr)) (repTB w base t v (repP L a b xs)) := by
  have hk : Kp w (w.alloc (.cells (xs.map (Value.int .u8)).toArray 5 fr)) nob := (Kp.refl w nob).alloc _
  have hr := fresh_rd w (xs.map (Value.int .u8)).toArray 5 fr xs.length xs.length (by simp) (Nat.le_refl _) hx
  obtain ⟨h1, h2⟩ := TI_lt h
  refine (repT_okB _ base t v L a b _ xs (h.kp hk) hL hl hab hbl (by simpa using hr) (fun g hg => ?_) hx (by have := hk.size; omega)).mono ?_
  · injection hg with hg
    simp only at hg
    exact ⟨by omega, fun e => by have := h2 _ e; omega⟩
  · rintro e w' ⟨rfl, v', h3, h4, h5⟩
    refine ⟨rfl, v', h3, hk.mono (fun _ _ e => e.elim) |>.trans h4 (fun _ _ e => e), h5.imp id ?_⟩
    rintro ⟨b, h6, h7⟩
    exact ⟨b, h6, by have := hk.size; omega⟩
theorem rep_nil (w : World) (base t : Nat) (v : Value) (L : List (List Int)) (a b : Nat) (h : TIB w base t v L) (hL : lens L ≤ 1000000) (hl : L.length ≤ 900000) (hab : a ≤ b) (hbl : b ≤ lens L) (hb : base ≤ w.heap.size) :
    Calls Try.prog 14 #[.pointer (some ⟨t, 0, none⟩), .int .i64 a, .int .i64 b, .slice none 0 0] w (repTB w base t v (repP L a b [])) :=
  repT_okB w base t v L a b _ [] h hL hl hab hbl (Rd.nil w) (fun g hg => by cases hg) (by simp) hb
/-- A chain of replacements: what has become of a table since w. -/
def since (w : World) (base t : Nat) (v : Value) (L : List (List Int)) (w' : World) : Prop :=
  ∃ v', TIB w' base t v' L ∧ Kp w w' (fun k => k = t ∨ v.ownBlock = some k) ∧ (v'.ownBlock = v.ownBlock ∨ ∃ b, v'.ownBlock = some b ∧ w.heap.size ≤ b)
set_option maxHeartbeats 2000000 in
theorem works_ok (w : World) : Calls Try.prog 10 #[] w (yes w) := by
  have kc := fun (w : World) (C : Array Value) (n c : Nat) => Lib.run_convert_bytes_const (P := Try.prog) w 22 5 C n c Try.underlying22 Try.underlying5
  go_enter Try.func10, Try.ntmps10
  go_wp2_with fail
  -- New
  refine (newT_okB _ w.heap.size _ [97, 98, 99] (fresh_rd w _ 5 (3, 4) 3 3 rfl (by omega) (by omega)) (by simp) (by simp)).mono ?_
  rintro e w1 ⟨t, v1, rfl, ht, hv1, hT1, hk1⟩
  have ht : w.heap.size ≤ t := by simp at ht; omega
  have hv1 : ∀ b, v1.ownBlock = some b → w.heap.size ≤ b := fun b hb => by have := hv1 b hb; simp at this; omega
  have hk1 : Kp w w1 nob := ((Kp.refl w nob).alloc _).trans hk1 (fun _ _ e => e)
  have hs1 := hk1.size
  rw [if_neg (by simp)] at hT1
  have HT1 := Lib.hid hT1
  clear hT1
  go_wp2_with fail
  -- Replace(1, 2, XY)
  refine (rep_const w1 w.heap.size t v1 [[97, 98, 99]] 1 2 [88, 89] (2, 3) HT1.out (by decide) (by decide) (by omega) (by decide) (by decide) hs1).mono ?_
  rintro e w2 ⟨rfl, v2, hT2, hk2, hv2⟩
  have hs2 := hk2.size
  have hT2 : TIB w2 w.heap.size t v2 [[97], [88, 89], [99]] := hT2
  have HT2 := Lib.hid hT2
  clear hT2
  go_wp2_with fail
  refine (tells_true w2 w.heap.size t v2 _ HT2.out (by decide) ⟨#[97, 88, 89, 99]⟩ (by decide) (by decide)).mono ?_
  rintro e w3 ⟨rfl, hk3⟩
  have hs3 := hk3.size
  have HT3 : Hid (TIB w3 w.heap.size t v2 [[97], [88, 89], [99]]) := HT2.out.kp hk3
  clear HT2 HT1
  go_wp2_with fail
  -- Snap
  refine (snapT_okB w3 w.heap.size t v2 _ HT3.out (by decide) (by omega)).mono ?_
  rintro e w4 ⟨s, v4, rfl, hs, hv4, hS4, hk4⟩
  have hs4 := hk4.size
  have hlt3 := TI_lt HT3.out
  have HT4 : Hid (TIB w4 w.heap.size t v2 [[97], [88, 89], [99]]) := HT3.out.kp hk4
  have HS4 := Lib.hid hS4
  clear hS4 HT3
  go_wp2_with fail
  -- Replace(0, 4, nil)
  refine (rep_nil w4 w.heap.size t v2 _ 0 4 HT4.out (by decide) (by decide) (by omega) (by decide) (by omega)).mono ?_
  rintro e w5 ⟨rfl, v5, hT5, hk5, hv5⟩
  have hs5 := hk5.size
  have hT5 : TIB w5 w.heap.size t v5 [] := hT5
  have HS5 : Hid (TIB w5 w.heap.size s v4 [[97], [88, 89], [99]]) := HS4.out.apart HT4.out hk5 (by omega) (fun b hb e => by have := hv4 b hb; have := hlt3.2 b e; omega)
  have HT5 := Lib.hid hT5
  clear hT5 HS4 HT4
  go_wp2_with fail
  -- Slice(1, 3) of the snapshot
  refine (slice_goodB w5 w.heap.size s v4 _ 1 3 HS5.out (by decide) (by omega) (by decide)).mono ?_
  rintro e w6 ⟨u6, rfl, ho6, hk6⟩
  have hs6 := hk6.size
  have HT6 : Hid (TIB w6 w.heap.size t v5 []) := HT5.out.kp hk6
  have HS6 : Hid (TIB w6 w.heap.size s v4 [[97], [88, 89], [99]]) := HS5.out.kp hk6
  have ho6 : w6.ownsRow w5.heap.size 5 1 u6 2 ([88, 89].map (Value.int .u8)) := ho6
  have HO6 := Lib.hid ho6
  obtain ⟨A6, c6, rfl, _, _⟩ := own_slice ho6
  clear HT5 HS5 ho6
  go_wp2_with fail
  refine (tells_true w6 w.heap.size t v5 _ HT6.out (by decide) ⟨#[]⟩ (by decide) (by decide)).mono ?_
  rintro e w7 ⟨rfl, hk7⟩
  have hs7 := hk7.size
  have HS7 : Hid (TIB w7 w.heap.size s v4 [[97], [88, 89], [99]]) := HS6.out.kp hk7
  have hcv : (convert 22 9 (.slice A6 2 c6)).run Try.prog w7 = .ok (.string (strOfNums [88, 89])) w7 := run_string_row w7 w5.heap.size _ [88, 89] (own_kp HO6.out hk7 (fun _ _ e => e))
  have hq : (strOfNums [88, 89]).toList = [88, 89] := by rw [show strOfNums [88, 89] = ⟨#[88, 89]⟩ from by decide]; simp
  clear HT6 HS6 HO6
  go_wp2_with fail
  refine (tells_true w7 w.heap.size s v4 _ HS7.out (by decide) ⟨#[97, 88, 89, 99]⟩ (by decide) (by decide)).mono ?_
  rintro e w8 ⟨rfl, hk8⟩
  have hfin : Kp w w8 nob := by
    have a1 : Kp w w2 nob := hk1.trans hk2 (fun k hk e => by
      rcases e with rfl | e
      · omega
      · have := hv1 _ e; omega)
    have a2 : Kp w w4 nob := (a1.trans hk3 (fun _ _ e => e)).trans hk4 (fun _ _ e => e)
    have a3 : Kp w w5 nob := a2.trans hk5 (fun k hk e => by
      rcases e with rfl | e
      · omega
      · rcases hv2 with hv2 | ⟨b, hb, hle⟩
        · rw [hv2] at e; have := hv1 _ e; omega
        · rw [hb] at e; injection e with e; omega)
    exact ((a3.trans hk6 (fun _ _ e => e)).trans hk7 (fun _ _ e => e)).trans hk8 (fun _ _ e => e)
  have HF := Lib.hid hfin
  clear hfin HS7
  go_wp2_with fail
  go_ret
  exact ⟨rfl, HF.out⟩
end Go.Proofs.Ytciandflgmmjaaa
