/- The table's methods: New, Replace, Snap, Pieces. -/
import Derived.Test.YtciandflgmmjaaaBhI
namespace Go.Proofs.Ytciandflgmmjaaa
set_option linter.unusedVariables false
set_option linter.unusedSimpArgs false
open Go.RowKit
/-- A new table. -/
def newTabI (w : World) (base : Nat) (L : List (List Value)) (e : Ending) (w' : World) : Prop :=
  ∃ t v, e = .returned (.pointer (some ⟨t, 0, none⟩)) ∧ w.heap.size ≤ t ∧ (∀ b, v.ownBlock = some b → w.heap.size ≤ b) ∧ Tab w' base 68 41 3 t v L ∧ Kp w w' nob
set_option maxHeartbeats 400000 in
theorem new_okI (w : World) (base : Nat) (u : Value) (xs : List Value) (hu : Rd w u xs) (h1 : ∀ u ∈ xs, u.oneCell' = true) (hx : xs.length ≤ 1000000) (hb : base ≤ w.heap.size) :
    Calls Try.prog 20 #[u] w (newTabI w base (if xs = [] then [] else [xs])) := by
  obtain ⟨A, c, rfl⟩ := hu.shape
  have hT : Tab (w.alloc (.cells #[.bool true, .slice none 0 0] 68)) base 68 41 3 w.heap.size (.slice none 0 0) [] := ⟨hb, heap_alloc_new _ _, [], World.ownsRow_nil _ _ _ _, trivial⟩
  have hput := put_okI _ base w.heap.size _ [] 0 _ xs hT (hu.alloc _) h1 hx (Nat.le_refl _) (by simp) (by simp; omega)
  obtain ⟨R, hR⟩ : ∃ R, R = (if xs = [] then [] else [xs]) := ⟨_, rfl⟩
  rw [show (if xs = [] then [] else [].take 0 ++ xs :: [].drop 0) = R from by rw [hR]; simp] at hput
  rw [← hR]
  clear hR
  have HP := Lib.hid hput
  have hend : ∀ e w', tabToI (w.alloc (.cells #[.bool true, .slice none 0 0] 68)) base w.heap.size (.slice none 0 0) R (.tuple #[]) e w' → e = .returned (.tuple #[]) ∧ Hid (newTabI w base R (.returned (.pointer (some ⟨w.heap.size, 0, none⟩))) w') := by
    rintro e w' ⟨rfl, v', h2, h3, h4⟩
    refine ⟨rfl, w.heap.size, v', rfl, Nat.le_refl _, ?_, h2, ?_⟩
    · intro b hb'
      rcases h4 with h4 | ⟨b', h4, h5⟩
      · rw [h4] at hb'; cases hb'
      · rw [h4] at hb'; injection hb' with hb'; subst hb'; simp at h5; omega
    · exact ((Kp.refl w nob).alloc _).trans h3 (fun k hk e => by
        rcases e with rfl | e
        · omega
        · cases e)
  have HE := Lib.hid hend
  clear hend hput hT hu
  go_enter Try.func20, Try.ntmps20
  go_wp2_with (go_at_call 34; refine HP.out.mono ?_; intro e w1 hm; obtain ⟨rfl, hf⟩ := HE.out e w1 hm; clear hm)
  go_ret
  exact hf.out
set_option maxHeartbeats 400000 in
theorem replace_errI (w : World) (base t : Nat) (v : Value) (L : List (List Value)) (a b : Int) (u : Value) (h : Tab w base 68 41 3 t v L) (hL : lens L ≤ 1000000) (hab : ¬ (0 ≤ a ∧ a ≤ b ∧ b ≤ lens L)) :
    Calls Try.prog 22 #[.pointer (some ⟨t, 0, none⟩), .int .i64 a, .int .i64 b, u] w fun e w' => e = .returned (.int .i64 9) ∧ w = w' := by
  have hc0 := h.cell0
  have hlen := len_tabI w base t v L h hL
  have HN := Lib.hid hlen
  clear hlen h
  by_cases h0 : a < 0
  · go_enter Try.func22, Try.ntmps22
    go_wp2_with (go_at_call 35; refine (none_ptrI _ _ _ hc0).mono ?_; rintro e w' ⟨rfl, rfl⟩)
    go_ret
    exact ⟨rfl, rfl⟩
  · by_cases h1 : b < a
    · go_enter Try.func22, Try.ntmps22
      go_wp2_with (go_at_call 35; refine (none_ptrI _ _ _ hc0).mono ?_; rintro e w' ⟨rfl, rfl⟩)
      go_ret
      exact ⟨rfl, rfl⟩
    · have h2 : (lens L : Int) < b := by omega
      clear hab
      go_enter Try.func22, Try.ntmps22
      go_wp2_with (first | (go_at_call 35; refine (none_ptrI _ _ _ hc0).mono ?_; rintro e w' ⟨rfl, rfl⟩) | (go_at_call 36; refine HN.out.mono ?_; rintro e w' ⟨rfl, rfl⟩))
      go_ret
      exact ⟨rfl, rfl⟩
theorem chainI {w w1 w2 : World} {t : Nat} {v v1 v2 : Value} (h1 : Kp w w1 (fun k => k = t ∨ v.ownBlock = some k)) (hv1 : v1.ownBlock = v.ownBlock ∨ ∃ b, v1.ownBlock = some b ∧ w.heap.size ≤ b)
    (h2 : Kp w1 w2 (fun k => k = t ∨ v1.ownBlock = some k)) (hv2 : v2.ownBlock = v1.ownBlock ∨ ∃ b, v2.ownBlock = some b ∧ w1.heap.size ≤ b) :
    Kp w w2 (fun k => k = t ∨ v.ownBlock = some k) ∧ (v2.ownBlock = v.ownBlock ∨ ∃ b, v2.ownBlock = some b ∧ w.heap.size ≤ b) := by
  constructor
  · refine h1.trans h2 (fun k hk e => ?_)
    rcases e with e | e
    · exact .inl e
    · rcases hv1 with hv1 | ⟨b, hb, hle⟩
      · exact .inr (hv1 ▸ e)
      · rw [hb] at e; injection e with e; omega
  · rcases hv2 with hv2 | ⟨b, hb, hle⟩
    · rcases hv1 with hv1 | hv1
      · exact .inl (hv2.trans hv1)
      · rw [hv2]; exact .inr hv1
    · exact .inr ⟨b, hb, Nat.le_trans h1.size hle⟩
theorem rd_chainI {w w1 : World} {t : Nat} {v u : Value} {xs : List Value} (hu : Rd w u xs) (hub : ∀ g, u.ownBlock = some g → g ≠ t ∧ v.ownBlock ≠ some g) (h1 : Kp w w1 (fun k => k = t ∨ v.ownBlock = some k)) : Rd w1 u xs :=
  hu.kp h1 fun b hb e => by
    obtain ⟨h3, h4⟩ := hub b hb
    rcases e with e | e
    · exact h3 e
    · exact h4 e
theorem full_ofI {w : World} {base : Nat} : ∀ {ps : List Value} {L : List (List Value)}, All2 (Piece w base 3) ps L → full L
  | [], [], _ => by intro p hp; cases hp
  | _ :: _, _ :: _, h => by
    intro p hp
    rcases List.mem_cons.1 hp with rfl | hp
    · exact h.1.ne
    · exact full_ofI h.2 p hp
  | [], _ :: _, h => h.elim
  | _ :: _, [], h => h.elim
set_option maxHeartbeats 400000 in
theorem replace_goodI (w : World) (base t : Nat) (v : Value) (L : List (List Value)) (a b : Nat) (u : Value) (xs : List Value) (h : Tab w base 68 41 3 t v L) (hL : lens L ≤ 1000000) (hl : L.length ≤ 900000) (hab : a ≤ b) (hbl : b ≤ lens L)
    (hu : Rd w u xs) (hub : ∀ g, u.ownBlock = some g → g ≠ t ∧ v.ownBlock ≠ some g) (h1 : ∀ u ∈ xs, u.oneCell' = true) (hx : xs.length ≤ 1000000) (hb : base ≤ w.heap.size) :
    Calls Try.prog 22 #[.pointer (some ⟨t, 0, none⟩), .int .i64 a, .int .i64 b, u] w (tabToI w base t v (repP L a b xs) (.int .i64 0)) := by
  have hc0 := h.cell0
  have hf : full L := by obtain ⟨_, _, hp⟩ := h.own; exact full_ofI hp
  have hlen := len_tabI w base t v L h hL
  have HN := Lib.hid hlen
  have hcut1 := cut_okI w base t v L a h (by omega) (by omega) hL hb
  have HC1 := Lib.hid hcut1
  have h0 : ¬ ((a : Int) < 0) := by omega
  have h2 : ¬ ((b : Int) < (a : Int)) := by omega
  have h3 : ¬ ((lens L : Int) < (b : Int)) := by omega
  have hcl := cutP_len L a
  have hcl2 := cutP_len (cutP L a) b
  obtain ⟨hq1, hq2, hq3, hq4, _, _⟩ := rep_parts L a b hab hbl hf
  have hll : lens (cutP L a) = lens L := by rw [lens_flat, lens_flat, cutP_flat]
  have HR : Hid (repP L a b xs = if xs = [] then (cutP (cutP L a) b).take (cutI L a) ++ (cutP (cutP L a) b).drop (cutI (cutP L a) b) else ((cutP (cutP L a) b).take (cutI L a) ++ (cutP (cutP L a) b).drop (cutI (cutP L a) b)).take (cutI L a) ++ xs :: ((cutP (cutP L a) b).take (cutI L a) ++ (cutP (cutP L a) b).drop (cutI (cutP L a) b)).drop (cutI L a)) := rfl
  have HLL := Lib.hid hll
  clear h hlen hcut1 hll
  go_enter Try.func22, Try.ntmps22
  go_wp2_with (first | (go_at_call 35; refine (none_ptrI _ _ _ hc0).mono ?_; rintro e w' ⟨rfl, rfl⟩) | (go_at_call 36; refine HN.out.mono ?_; rintro e w' ⟨rfl, rfl⟩))
  refine HC1.out.mono ?_
  rintro e w1 ⟨rfl, v1, hT1, hk1, hv1⟩
  have hcut2 := cut_okI w1 base t v1 (cutP L a) b hT1 (by omega) (by omega) (by rw [HLL.out]; exact hL) (by have := hk1.size; omega)
  have HC2 := Lib.hid hcut2
  clear hcut2 hT1
  go_wp2_with fail
  refine HC2.out.mono ?_
  rintro e w2 ⟨rfl, v2, hT2, hk2, hv2⟩
  have hc2 := hT2.cell1
  obtain ⟨hk02, hv02⟩ := chainI hk1 hv1 hk2 hv2
  have hdel : Calls Try.prog 38 #[v2, .int .i64 (cutI L a), .int .i64 (cutI (cutP L a) b)] w2 (midToI w2 base t v2 ((cutP (cutP L a) b).take (cutI L a) ++ (cutP (cutP L a) b).drop (cutI (cutP L a) b))) := by
    obtain ⟨ps, ho, hp⟩ := hT2.own
    have hlen := hp.length
    refine (delete_okI w2 base v2 ps (cutI L a) (cutI (cutP L a) b) (by rw [hlen]; exact ho) (all2_oneI hp) hq3 (by omega) (by omega)).mono fun e w3 hr => mid_of_rowI w2 w2 base t v2 _ _ _ hT2 (Kp.refl _ _) (fun w4 hk4 => ?_) e w3 hr
    have hall : All2 (Piece w4 base 3) ps (cutP (cutP L a) b) := hp.imp fun _ _ hp => hp.kp hk4 (fun b cur fr hh e => by
      obtain ⟨_, cur', hc⟩ := own_ty ho b e
      exact ty_ne hh hc (by decide) rfl)
    exact All2.append (hall.take _) (hall.drop _)
  have HD := Lib.hid hdel
  clear hdel hT2 HC1 HC2 HN
  go_wp2_with fail
  refine HD.out.mono ?_
  rintro e w3 ⟨A3, n3, d3, rfl, hc3, hf3, hfin3⟩
  have HF3 := Lib.hid hfin3
  clear hfin3
  go_wp2_with fail
  obtain ⟨_, v4, hT4, hk4, hv4⟩ := HF3.out
  obtain ⟨hk04, hv04⟩ := chainI hk02 hv02 hk4 hv4
  have hlen3 : ((cutP (cutP L a) b).take (cutI L a) ++ (cutP (cutP L a) b).drop (cutI (cutP L a) b)).length ≤ 900002 := by
    rw [List.length_append, List.length_take, List.length_drop]; omega
  have hput := put_okI _ base t v4 _ (cutI L a) u xs hT4 (rd_chainI hu hub hk04) h1 hx (by rw [List.length_append, List.length_take]; omega) (by omega) (by have := hk04.size; omega)
  rw [← HR.out] at hput
  have HP := Lib.hid hput
  clear hput hT4 HF3 HD
  refine HP.out.mono ?_
  rintro e w5 ⟨rfl, v5, hT5, hk5, hv5⟩
  obtain ⟨hk05, hv05⟩ := chainI hk04 hv04 hk5 hv5
  have hfin : tabToI w base t v (repP L a b xs) (.int .i64 0) (.returned (.int .i64 0)) w5 := ⟨rfl, v5, hT5, hk05, hv05⟩
  have HF := Lib.hid hfin
  clear hfin hT5 hk05 hv05 hk04 hv04 hk02 hv02
  go_wp2
  go_ret
  exact HF.out
end Go.Proofs.Ytciandflgmmjaaa
