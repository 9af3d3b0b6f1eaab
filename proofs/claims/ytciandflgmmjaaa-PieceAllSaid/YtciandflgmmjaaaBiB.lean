/- The table's methods: New, Replace, Snap, Pieces. -/
import Derived.Test.YtciandflgmmjaaaBhB
namespace Go.Proofs.Ytciandflgmmjaaa
set_option linter.unusedVariables false
set_option linter.unusedSimpArgs false
open Go.RowKit
/-- A new table. -/
def newTabB (w : World) (base : Nat) (L : List (List Value)) (e : Ending) (w' : World) : Prop :=
  ∃ t v, e = .returned (.pointer (some ⟨t, 0, none⟩)) ∧ w.heap.size ≤ t ∧ (∀ b, v.ownBlock = some b → w.heap.size ≤ b) ∧ Tab w' base 61 22 5 t v L ∧ Kp w w' nob
set_option maxHeartbeats 400000 in
theorem new_okB (w : World) (base : Nat) (u : Value) (xs : List Value) (hu : Rd w u xs) (h1 : ∀ u ∈ xs, u.oneCell' = true) (hx : xs.length ≤ 1000000) (hb : base ≤ w.heap.size) :
    Calls Try.prog 11 #[u] w (newTabB w base (if xs = [] then [] else [xs])) := by
  obtain ⟨A, c, rfl⟩ := hu.shape
  have hT : Tab (w.alloc (.cells #[.bool true, .slice none 0 0] 61)) base 61 22 5 w.heap.size (.slice none 0 0) [] := ⟨hb, heap_alloc_new _ _, [], World.ownsRow_nil _ _ _ _, trivial⟩
  have hput := put_okB _ base w.heap.size _ [] 0 _ xs hT (hu.alloc _) h1 hx (Nat.le_refl _) (by simp) (by simp; omega)
  obtain ⟨R, hR⟩ : ∃ R, R = (if xs = [] then [] else [xs]) := ⟨_, rfl⟩
  rw [show (if xs = [] then [] else [].take 0 ++ xs :: [].drop 0) = R from by rw [hR]; simp] at hput
  rw [← hR]
  clear hR
  have HP := Lib.hid hput
  have hend : ∀ e w', tabToB (w.alloc (.cells #[.bool true, .slice none 0 0] 61)) base w.heap.size (.slice none 0 0) R (.tuple #[]) e w' → e = .returned (.tuple #[]) ∧ Hid (newTabB w base R (.returned (.pointer (some ⟨w.heap.size, 0, none⟩))) w') := by
    rintro e w' ⟨rfl, v', h2, h3, h4⟩
    refine ⟨rfl, w.heap.size, v', rfl, Nat.le_refl _, ?_, h2, ?_⟩
    · intro b hb'
      rcases h4 with h4 | ⟨b', h4, h5⟩
      · rw [h4] at hb'; cases hb'
      · rw [h4] at hb'; injection hb' with hb'; subst hb'; simp at h5; omega
    · exact ((Kp.refl w nob).alloc _).trans h3 (fun k hk e => by
        rcases e with rfl | e
        · omega
        · cases e)
  have HE := Lib.hid hend
  clear hend hput hT hu
  go_enter Try.func11, Try.ntmps11
  go_wp2_with (go_at_call 29; refine HP.out.mono ?_; intro e w1 hm; obtain ⟨rfl, hf⟩ := HE.out e w1 hm; clear hm)
  go_ret
  exact hf.out
set_option maxHeartbeats 400000 in
theorem pieces_okB (w : World) (base t : Nat) (v : Value) (L : List (List Value)) (h : Tab w base 61 22 5 t v L) :
    Calls Try.prog 19 #[.pointer (some ⟨t, 0, none⟩)] w fun e w' => e = .returned (.int .i64 L.length) ∧ w = w' := by
  have hc0 := h.cell0
  have hc1 := h.cell1
  obtain ⟨ps, ho, _⟩ := h.own
  obtain ⟨A, c, rfl, hnc, hcm⟩ := own_slice ho
  clear h ho
  go_enter Try.func19, Try.ntmps19
  go_wp2_with (go_at_call 30; refine (none_ptrB _ _ _ hc0).mono ?_; rintro e w' ⟨rfl, rfl⟩)
  go_ret
  exact ⟨rfl, rfl⟩
set_option maxHeartbeats 400000 in
theorem snap_okB (w : World) (base t : Nat) (v : Value) (L : List (List Value)) (h : Tab w base 61 22 5 t v L) (hl : L.length ≤ 1000000) (hb : base ≤ w.heap.size) :
    Calls Try.prog 18 #[.pointer (some ⟨t, 0, none⟩)] w (newTabB w base L) := by
  have hc0 := h.cell0
  have hc1 := h.cell1
  obtain ⟨ps, ho, hp⟩ := h.own
  have hlen := hp.length
  have hcl := cloneR_okB w v ps (Rd.of_own ho) (all2_oneB hp) (by omega)
  rw [hlen] at hcl
  have hend : ∀ u w1, w1.ownsRow w.heap.size 22 1 u L.length ps → Kp w w1 nob → Hid (newTabB w base L (.returned (.pointer (some ⟨w1.heap.size, 0, none⟩))) (w1.alloc (.cells #[.bool true, u] 61))) := by
    intro u w1 ho1 hk1
    have hk2 : Kp w (w1.alloc (.cells #[.bool true, u] 61)) nob := hk1.alloc _
    refine ⟨w1.heap.size, u, rfl, hk1.size, fun b hb => (own_ty ho1 b hb).1, ⟨by have := hk1.size; omega, heap_alloc_new _ _, ps, ?_, ?_⟩, hk2⟩
    · have := own_kp ho1 ((Kp.refl w1 nob).alloc (.cells #[.bool true, u] 61)) (fun _ _ e => e)
      refine ⟨this.1, this.2.imp id ?_⟩
      rintro ⟨g, cap, cur, h1, h2, h3⟩
      exact ⟨g, cap, cur, h1, by omega, h3⟩
    · exact hp.imp fun _ _ h => h.kp hk2 (fun _ _ _ _ e => e)
  have HE := Lib.hid hend
  have HC := Lib.hid hcl
  clear h ho hend hcl hp hlen
  go_enter Try.func18, Try.ntmps18
  go_wp2_with (first | (go_at_call 30; refine (none_ptrB _ _ _ hc0).mono ?_; rintro e w' ⟨rfl, rfl⟩) | (go_at_call 33; refine HC.out.mono ?_; rintro e w1 ⟨u, rfl, ho1, hk1⟩; have hfin := HE.out u w1 ho1 hk1; obtain ⟨A1, c1, rfl, _, _⟩ := own_slice ho1; clear ho1 hk1))
  go_ret
  exact hfin.out
set_option maxHeartbeats 400000 in
theorem replace_errB (w : World) (base t : Nat) (v : Value) (L : List (List Value)) (a b : Int) (u : Value) (h : Tab w base 61 22 5 t v L) (hL : lens L ≤ 1000000) (hab : ¬ (0 ≤ a ∧ a ≤ b ∧ b ≤ lens L)) :
    Calls Try.prog 14 #[.pointer (some ⟨t, 0, none⟩), .int .i64 a, .int .i64 b, u] w fun e w' => e = .returned (.int .i64 9) ∧ w = w' := by
  have hc0 := h.cell0
  have hlen := len_tabB w base t v L h hL
  have HN := Lib.hid hlen
  clear hlen h
  by_cases h0 : a < 0
  · go_enter Try.func14, Try.ntmps14
    go_wp2_with (go_at_call 30; refine (none_ptrB _ _ _ hc0).mono ?_; rintro e w' ⟨rfl, rfl⟩)
    go_ret
    exact ⟨rfl, rfl⟩
  · by_cases h1 : b < a
    · go_enter Try.func14, Try.ntmps14
      go_wp2_with (go_at_call 30; refine (none_ptrB _ _ _ hc0).mono ?_; rintro e w' ⟨rfl, rfl⟩)
      go_ret
      exact ⟨rfl, rfl⟩
    · have h2 : (lens L : Int) < b := by omega
      clear hab
      go_enter Try.func14, Try.ntmps14
      go_wp2_with (first | (go_at_call 30; refine (none_ptrB _ _ _ hc0).mono ?_; rintro e w' ⟨rfl, rfl⟩) | (go_at_call 17; refine HN.out.mono ?_; rintro e w' ⟨rfl, rfl⟩))
      go_ret
      exact ⟨rfl, rfl⟩
theorem chainB {w w1 w2 : World} {t : Nat} {v v1 v2 : Value} (h1 : Kp w w1 (fun k => k = t ∨ v.ownBlock = some k)) (hv1 : v1.ownBlock = v.ownBlock ∨ ∃ b, v1.ownBlock = some b ∧ w.heap.size ≤ b)
    (h2 : Kp w1 w2 (fun k => k = t ∨ v1.ownBlock = some k)) (hv2 : v2.ownBlock = v1.ownBlock ∨ ∃ b, v2.ownBlock = some b ∧ w1.heap.size ≤ b) :
    Kp w w2 (fun k => k = t ∨ v.ownBlock = some k) ∧ (v2.ownBlock = v.ownBlock ∨ ∃ b, v2.ownBlock = some b ∧ w.heap.size ≤ b) := by
  constructor
  · refine h1.trans h2 (fun k hk e => ?_)
    rcases e with e | e
    · exact .inl e
    · rcases hv1 with hv1 | ⟨b, hb, hle⟩
      · exact .inr (hv1 ▸ e)
      · rw [hb] at e; injection e with e; omega
  · rcases hv2 with hv2 | ⟨b, hb, hle⟩
    · rcases hv1 with hv1 | hv1
      · exact .inl (hv2.trans hv1)
      · rw [hv2]; exact .inr hv1
    · exact .inr ⟨b, hb, Nat.le_trans h1.size hle⟩
theorem rd_chainB {w w1 : World} {t : Nat} {v u : Value} {xs : List Value} (hu : Rd w u xs) (hub : ∀ g, u.ownBlock = some g → g ≠ t ∧ v.ownBlock ≠ some g) (h1 : Kp w w1 (fun k => k = t ∨ v.ownBlock = some k)) : Rd w1 u xs :=
  hu.kp h1 fun b hb e => by
    obtain ⟨h3, h4⟩ := hub b hb
    rcases e with e | e
    · exact h3 e
    · exact h4 e
theorem full_ofB {w : World} {base : Nat} : ∀ {ps : List Value} {L : List (List Value)}, All2 (Piece w base 5) ps L → full L
  | [], [], _ => by intro p hp; cases hp
  | _ :: _, _ :: _, h => by
    intro p hp
    rcases List.mem_cons.1 hp with rfl | hp
    · exact h.1.ne
    · exact full_ofB h.2 p hp
  | [], _ :: _, h => h.elim
  | _ :: _, [], h => h.elim
set_option maxHeartbeats 400000 in
theorem replace_goodB (w : World) (base t : Nat) (v : Value) (L : List (List Value)) (a b : Nat) (u : Value) (xs : List Value) (h : Tab w base 61 22 5 t v L) (hL : lens L ≤ 1000000) (hl : L.length ≤ 900000) (hab : a ≤ b) (hbl : b ≤ lens L)
    (hu : Rd w u xs) (hub : ∀ g, u.ownBlock = some g → g ≠ t ∧ v.ownBlock ≠ some g) (h1 : ∀ u ∈ xs, u.oneCell' = true) (hx : xs.length ≤ 1000000) (hb : base ≤ w.heap.size) :
    Calls Try.prog 14 #[.pointer (some ⟨t, 0, none⟩), .int .i64 a, .int .i64 b, u] w (tabToB w base t v (repP L a b xs) (.int .i64 0)) := by
  have hc0 := h.cell0
  have hf : full L := by obtain ⟨_, _, hp⟩ := h.own; exact full_ofB hp
  have hlen := len_tabB w base t v L h hL
  have HN := Lib.hid hlen
  have hcut1 := cut_okB w base t v L a h (by omega) (by omega) hL hb
  have HC1 := Lib.hid hcut1
  have h0 : ¬ ((a : Int) < 0) := by omega
  have h2 : ¬ ((b : Int) < (a : Int)) := by omega
  have h3 : ¬ ((lens L : Int) < (b : Int)) := by omega
  have hcl := cutP_len L a
  have hcl2 := cutP_len (cutP L a) b
  obtain ⟨hq1, hq2, hq3, hq4, _, _⟩ := rep_parts L a b hab hbl hf
  have hll : lens (cutP L a) = lens L := by rw [lens_flat, lens_flat, cutP_flat]
  have HR : Hid (repP L a b xs = if xs = [] then (cutP (cutP L a) b).take (cutI L a) ++ (cutP (cutP L a) b).drop (cutI (cutP L a) b) else ((cutP (cutP L a) b).take (cutI L a) ++ (cutP (cutP L a) b).drop (cutI (cutP L a) b)).take (cutI L a) ++ xs :: ((cutP (cutP L a) b).take (cutI L a) ++ (cutP (cutP L a) b).drop (cutI (cutP L a) b)).drop (cutI L a)) := rfl
  have HLL := Lib.hid hll
  clear h hlen hcut1 hll
  go_enter Try.func14, Try.ntmps14
  go_wp2_with (first | (go_at_call 30; refine (none_ptrB _ _ _ hc0).mono ?_; rintro e w' ⟨rfl, rfl⟩) | (go_at_call 17; refine HN.out.mono ?_; rintro e w' ⟨rfl, rfl⟩))
  refine HC1.out.mono ?_
  rintro e w1 ⟨rfl, v1, hT1, hk1, hv1⟩
  have hcut2 := cut_okB w1 base t v1 (cutP L a) b hT1 (by omega) (by omega) (by rw [HLL.out]; exact hL) (by have := hk1.size; omega)
  have HC2 := Lib.hid hcut2
  clear hcut2 hT1
  go_wp2_with fail
  refine HC2.out.mono ?_
  rintro e w2 ⟨rfl, v2, hT2, hk2, hv2⟩
  have hc2 := hT2.cell1
  obtain ⟨hk02, hv02⟩ := chainB hk1 hv1 hk2 hv2
  have hdel : Calls Try.prog 32 #[v2, .int .i64 (cutI L a), .int .i64 (cutI (cutP L a) b)] w2 (midToB w2 base t v2 ((cutP (cutP L a) b).take (cutI L a) ++ (cutP (cutP L a) b).drop (cutI (cutP L a) b))) := by
    obtain ⟨ps, ho, hp⟩ := hT2.own
    have hlen := hp.length
    refine (delete_okB w2 base v2 ps (cutI L a) (cutI (cutP L a) b) (by rw [hlen]; exact ho) (all2_oneB hp) hq3 (by omega) (by omega)).mono fun e w3 hr => mid_of_rowB w2 w2 base t v2 _ _ _ hT2 (Kp.refl _ _) (fun w4 hk4 => ?_) e w3 hr
    have hall : All2 (Piece w4 base 5) ps (cutP (cutP L a) b) := hp.imp fun _ _ hp => hp.kp hk4 (fun b cur fr hh e => by
      obtain ⟨_, cur', hc⟩ := own_ty ho b e
      exact ty_ne hh hc (by decide) rfl)
    exact All2.append (hall.take _) (hall.drop _)
  have HD := Lib.hid hdel
  clear hdel hT2 HC1 HC2 HN
  go_wp2_with fail
  refine HD.out.mono ?_
  rintro e w3 ⟨A3, n3, d3, rfl, hc3, hf3, hfin3⟩
  have HF3 := Lib.hid hfin3
  clear hfin3
  go_wp2_with fail
  obtain ⟨_, v4, hT4, hk4, hv4⟩ := HF3.out
  obtain ⟨hk04, hv04⟩ := chainB hk02 hv02 hk4 hv4
  have hlen3 : ((cutP (cutP L a) b).take (cutI L a) ++ (cutP (cutP L a) b).drop (cutI (cutP L a) b)).length ≤ 900002 := by
    rw [List.length_append, List.length_take, List.length_drop]; omega
  have hput := put_okB _ base t v4 _ (cutI L a) u xs hT4 (rd_chainB hu hub hk04) h1 hx (by rw [List.length_append, List.length_take]; omega) (by omega) (by have := hk04.size; omega)
  rw [← HR.out] at hput
  have HP := Lib.hid hput
  clear hput hT4 HF3 HD
  refine HP.out.mono ?_
  rintro e w5 ⟨rfl, v5, hT5, hk5, hv5⟩
  obtain ⟨hk05, hv05⟩ := chainB hk04 hv04 hk5 hv5
  have hfin : tabToB w base t v (repP L a b xs) (.int .i64 0) (.returned (.int .i64 0)) w5 := ⟨rfl, v5, hT5, hk05, hv05⟩
  have HF := Lib.hid hfin
  clear hfin hT5 hk05 hv05 hk04 hv04 hk02 hv02
  go_wp2
  go_ret
  exact HF.out
end Go.Proofs.Ytciandflgmmjaaa
