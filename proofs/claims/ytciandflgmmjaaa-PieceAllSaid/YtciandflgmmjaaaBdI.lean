/- slices.Insert of one element into a row of the call's own. -/
import Derived.Test.YtciandflgmmjaaaRows
import Derived.Test.YtciandflgmmjaaaWb
namespace Go.Proofs.Ytciandflgmmjaaa
set_option linter.unusedVariables false
set_option linter.unusedSimpArgs false
open Go.RowKit
theorem infoRI : (Try.prog.info? 41).map (fun i => (i.zero, i.size, i.bytes)) = some (some (.slice none 0 0), 1, 24) := by kernel_rfl
theorem sizeRI : (Try.prog.info? 41).map (·.size) = some 1 := by kernel_rfl
theorem sizeofRI (w : World) : (sizeOf 41).run Try.prog w = .ok 1 w := by kernel_rfl
/-- What a row of the call's own has become. -/
def rowToI (w : World) (base : Nat) (v : Value) (ps : List Value) (e : Ending) (w' : World) : Prop :=
  ∃ v', e = .returned v' ∧ w'.ownsRow base 41 1 v' ps.length ps ∧ Kp w w' (fun k => v.ownBlock = some k) ∧ (v'.ownBlock = v.ownBlock ∨ ∃ b, v'.ownBlock = some b ∧ w.heap.size ≤ b)
set_option maxHeartbeats 400000 in
/-- At the end. -/
theorem insert_endI (w : World) (base : Nat) (v : Value) (ps : List Value) (x u : Value) (ho : w.ownsRow base 41 1 v ps.length ps) (hx : Rd w u [x]) (h1 : x.oneCell' = true) (hb : base ≤ w.heap.size) (hl : ps.length ≤ 1000000) :
    Calls Try.prog 44 #[v, .int .i64 ps.length, u] w (rowToI w base v (ps ++ [x])) := by
  have H := Lib.hid ho
  obtain ⟨A, c, rfl, hnc, hcm⟩ := own_slice ho
  have HX := Lib.hid hx
  obtain ⟨B, d, rfl⟩ := hx.shape
  clear ho hx
  go_enter Try.func44, Try.ntmps44
  go_wp2_with (at_builtin; refine wpList_append_rd _ rfl _ _ _ rfl base 41 _ _ Try.underlying66 infoRI rfl _ ps rfl H.out _ (ownBlock_slice _ _ _) _ [x] rfl HX.out (by simpa using h1) (by simp; omega) (by simp; omega) hb ?_; intro v1 w1 hown hg hat)
  all_goals
    go_ret
    exact ⟨v1, rfl, by simpa using hown, by rw [ownBlock_slice]; exact Kp.of_grown hg, by rw [ownBlock_slice]; exact hat.imp id fun e => ⟨_, e, Nat.le_refl _⟩⟩
set_option maxHeartbeats 1000000 in
/-- In place. -/
theorem insert_roomI (w : World) (base g c : Nat) (ps : List Value) (i vb : Nat) (x : Value) (ho : w.ownsRow base 41 1 (.slice (some ⟨g, 0, none⟩) ps.length c) ps.length ps)
    (hv : w.heap[vb]? = some (.cells #[x] 41 (0, 0))) (h1 : x.oneCell' = true) (h2 : ∀ p ∈ ps, p.oneCell' = true) (hg : vb ≠ g) (hi : i < ps.length) (hroom : ps.length + 1 ≤ c) (hl : ps.length ≤ 1000000) :
    Calls Try.prog 44 #[.slice (some ⟨g, 0, none⟩) ps.length c, .int .i64 i, .slice (some ⟨vb, 0, none⟩) 1 1] w (rowToI w base (.slice (some ⟨g, 0, none⟩) ps.length c) (ps.take i ++ x :: ps.drop i)) := by
  obtain ⟨cur, hcur, hcs, hct, hbg, hcm⟩ : ∃ cur : List Value, w.heap[g]? = some (.cells cur.toArray 41 (0, 0)) ∧ cur.length = c ∧ cur.take ps.length = ps ∧ base ≤ g ∧ c ≤ 9223372036854775807 := by
    rcases ho.2 with ⟨h0, _⟩ | ⟨g', cap, cur, h0, h3, h4, h5, h6, h7, h8⟩
    · cases h0
    · injection h0 with hA _ hc
      injection hA with hA
      injection hA with hA
      subst hA; subst hc
      exact ⟨cur.toList, by simpa using h4, by simpa using h7, by simpa using h8, h3, by simpa [maxLen] using h6⟩
  have hov : ∀ lb cb, (callFunc 50 #[.slice (some ⟨vb, 0, none⟩) 1 1, .slice (some ⟨g, i + 1, none⟩) lb cb]).run Try.prog w = .ok (.value (.bool false)) w := fun lb cb => by
    rw [run_callFunc_extern Try.func50 (by kernel_rfl) (by kernel_rfl) (by kernel_rfl) (e := Extern.SlicesOverlaps.overlaps #[66, 66] #[4]) (by kernel_rfl),
      Lib.run_overlaps_apart w 66 4 41 Try.underlying66 1 sizeofRI ⟨vb, 0, none⟩ ⟨g, i + 1, none⟩ 1 1 lb cb hg 41 41 1 c (by simp [World.shape?, hv]) (by simp [World.shape?, hcur, hcs]) (by omega) (by simp [World.frozen?, hv]) (by simp [World.frozen?, hv])]
    rfl
  have hz2 : ¬ ((i : Int) = (ps.length : Int)) := by omega
  have hw1 : IntKind.i64.wrap ((i : Int) + 1) = (i : Int) + 1 := by rw [IntKind.wrap_i64]; omega
  have hb1 : (0 : Int) ≤ (i : Int) + 1 := by omega
  have hin : i ≤ ps.length := by omega
  have htn : ((i : Int) + 1).toNat = i + 1 := by omega
  have hb2 : ¬ (c = i + 1) := by omega
  have hb3 : (i : Int) ≤ (ps.length : Int) + 1 := by omega
  have hb4 : ¬ (c = i) := by omega
  have hcell : ∀ j p, ps[j]? = some p → w.cell? ⟨g, j, none⟩ = some p := fun j p hp => by
    have := ho.cells (g := g) rfl j p hp
    rwa [add_plain, Nat.zero_add] at this
  have hdl : (ps.drop i).length = ps.length - i := List.length_drop
  obtain ⟨w1, hr1, hc1, hk1⟩ := run_copy_kp (P := Try.prog) w.drew 66 66 3 41 Try.underlying66 sizeRI (some ⟨g, i + 1, none⟩) (some ⟨g, i, none⟩) (ps.length - i) (c - (i + 1)) (ps.length + 1 - i) (c - i) g (i + 1) cur 41 hcur (ps.drop i)
    (by rw [hdl]; simp only [Nat.min_def]; split <;> omega) (fun _ => ⟨rfl, _, rfl, fun j v hv => by rw [add_plain]; rw [List.getElem?_drop] at hv; exact hcell _ _ hv⟩) (by rw [hdl, hcs]; omega) (fun v hv => h2 v (List.mem_of_mem_drop hv))
  have hvb1 : w1.cell? ⟨vb, 0, none⟩ = some x := hk1.cell (p := ⟨vb, 0, none⟩) (v := x) (by show w.cell? _ = _; rw [cell_of_row w vb 0 _ _ _ hv]; rfl) hg
  have hsl : (splice cur (i + 1) (ps.drop i)).length = c := by rw [length_splice _ _ _ (by rw [hdl, hcs]; omega), hcs]
  obtain ⟨w2, hr2, hc2, hk2⟩ := run_copy_kp (P := Try.prog) w1 66 66 3 41 Try.underlying66 sizeRI (some ⟨g, i, none⟩) (some ⟨vb, 0, none⟩) (ps.length + 1 - i) (c - i) 1 1 g i (splice cur (i + 1) (ps.drop i)) 41 hc1 [x]
    (by simp only [List.length_singleton, Nat.min_def]; split <;> omega) (fun _ => ⟨rfl, _, rfl, fun j v hv => by
      have : j = 0 := by have := (List.getElem?_eq_some_iff.1 hv).1; simpa using this
      subst this
      simp at hv
      subst hv
      rw [add_plain]; exact hvb1⟩) (by rw [hsl]; simp; omega) (fun v hv => by simp at hv; subst hv; exact h1)
  have hfin : (splice (splice cur (i + 1) (ps.drop i)) i [x]).take (ps.length + 1) = ps.take i ++ x :: ps.drop i := by
    have e1 : cur.take (i + 1) = (cur.take ps.length).take (i + 1) := by rw [List.take_take, Nat.min_eq_left (by omega)]
    have e0 : cur.take i = (cur.take ps.length).take i := by rw [List.take_take, Nat.min_eq_left (by omega)]
    rw [hct] at e1 e0
    have hpl : (ps.take (i + 1)).length = i + 1 := by rw [List.length_take]; omega
    have e2 : (splice cur (i + 1) (ps.drop i)).take i = ps.take i := by
      unfold splice
      rw [e1, List.take_append_of_le_length (by omega), List.take_take, Nat.min_eq_left (by omega)]
    have e3 : (splice cur (i + 1) (ps.drop i)).drop (i + 1) = ps.drop i ++ cur.drop (i + 1 + (ps.drop i).length) := by
      unfold splice
      rw [e1]
      conv => lhs; arg 1; rw [← hpl]
      exact List.drop_left
    unfold splice at e2 e3 ⊢
    rw [e2]
    simp only [List.length_singleton]
    rw [e3]
    rw [List.take_append, List.take_of_length_le (by rw [List.length_take]; omega), List.length_take, Nat.min_eq_left (by omega)]
    congr 1
    rw [show ps.length + 1 - i = (ps.length - i) + 1 from by omega, List.singleton_append, List.take_succ_cons]
    congr 1
    rw [List.take_append_of_le_length (by omega), List.take_of_length_le (by omega)]
  have hsl2 : (splice (splice cur (i + 1) (ps.drop i)) i [x]).length = c := by rw [length_splice _ _ _ (by rw [hsl]; simp; omega), hsl]
  have hlen3 : (ps.take i ++ x :: ps.drop i).length = ps.length + 1 := by simp; omega
  have hend : rowToI w base (.slice (some ⟨g, 0, none⟩) ps.length c) (ps.take i ++ x :: ps.drop i) (.returned (.slice (some ⟨g, 0, none⟩) (ps.length + 1) c)) w2 := by
    refine ⟨_, rfl, ⟨by simp, .inr ⟨g, c, _, by rw [hlen3], hbg, hc2, by rw [hlen3]; exact hroom, by simpa [maxLen] using hcm, by simpa using hsl2, ?_⟩⟩, ?_, .inl rfl⟩
    · rw [hlen3]; simpa using hfin
    · exact ((((Kp.refl w (fun k => k = g)).drew).trans hk1 (fun _ _ e => e)).trans hk2 (fun _ _ e => e)).mono fun k _ e => by subst e; rfl
  have HEND := Lib.hid hend
  clear hend hfin hsl2 hlen3 hsl hc2 hk2 hc1 hk1 hcur hv hct ho hcs hcell hdl hvb1
  have HR2 := Lib.hid hr2
  clear hr2
  go_enter Try.func44, Try.ntmps44
  go_wp2_with (simp only [hov])
  go_region_law (refine step_copy_run _ rfl (.tmp 73) (.tmp 76) 66 66 rfl _ _ (by simp [Act.eval, Act.put]) (by simp [Act.eval, Act.put]) hr1 ?_)
  go_wp2_with (refine wpList_copy_run _ rfl (.tmp 80) (.tmp 81) 66 66 rfl _ _ rfl rfl HR2.out ?_)
  go_ret
  exact HEND.out
set_option maxHeartbeats 1000000 in
/-- No room: a new row. -/
theorem insert_growI (w : World) (base g c : Nat) (ps : List Value) (i vb : Nat) (x : Value) (ho : w.ownsRow base 41 1 (.slice (some ⟨g, 0, none⟩) ps.length c) ps.length ps)
    (hv : w.heap[vb]? = some (.cells #[x] 41 (0, 0))) (h1 : x.oneCell' = true) (h2 : ∀ p ∈ ps, p.oneCell' = true) (hb : base ≤ w.heap.size) (hi : i < ps.length) (hroom : c < ps.length + 1) (hl : ps.length ≤ 1000000) :
    Calls Try.prog 44 #[.slice (some ⟨g, 0, none⟩) ps.length c, .int .i64 i, .slice (some ⟨vb, 0, none⟩) 1 1] w (rowToI w base (.slice (some ⟨g, 0, none⟩) ps.length c) (ps.take i ++ x :: ps.drop i)) := by
  obtain ⟨_, cur, hcur, hcs, hct, hbg, hcm, hnc, _, hcell⟩ := own_row ho
  have hgw : g < w.heap.size := (Array.getElem?_eq_some_iff.1 hcur).1
  have hvw : vb < w.heap.size := (Array.getElem?_eq_some_iff.1 hv).1
  have hz2 : ¬ ((i : Int) = (ps.length : Int)) := by omega
  have hdl : (ps.drop i).length = ps.length - i := List.length_drop
  have hrt := (Rd.of_own ho).take_ (i := i) (c' := c) (by omega) (by omega) (Nat.le_refl _)
  obtain ⟨cap, z, w1, hr1, hc1, hz1, hzc, hzm, hzt, hk1⟩ := run_append_zeros_rd (P := Try.prog) w 66 3 66 41 (.slice none 0 0) 24 .i64 .i64 Try.underlying66 Try.underlying3 infoRI rfl i c _ (ps.take i) (by rw [List.length_take]; omega) hrt (ps.length + 1 - i) (by omega) (by omega) (by omega) (by omega)
  rw [show i + (ps.length + 1 - i) = ps.length + 1 from by omega] at hr1 hzc
  rw [show ((ps.length + 1 - i : Nat) : Int) = (ps.length : Int) + 1 - (i : Int) from by omega] at hr1
  have hvb1 : w1.cell? ⟨vb, 0, none⟩ = some x := hk1.cell (p := ⟨vb, 0, none⟩) (v := x) (by rw [cell_of_row w vb 0 _ _ _ hv]; rfl) id
  obtain ⟨w2, hr2, hc2, hk2⟩ := run_copy_kp (P := Try.prog) w1 66 66 3 41 Try.underlying66 sizeRI (some ⟨w.heap.size, i, none⟩) (some ⟨vb, 0, none⟩) (ps.length + 1 - i) (cap - i) 1 1 w.heap.size i z 41 hc1 [x]
    (by simp only [List.length_singleton, Nat.min_def]; split <;> omega) (fun _ => ⟨rfl, _, rfl, fun j v hv => by
      have : j = 0 := by have := (List.getElem?_eq_some_iff.1 hv).1; simpa using this
      subst this
      simp at hv
      subst hv
      rw [add_plain]; exact hvb1⟩) (by simp; omega) (fun v hv => by simp at hv; subst hv; exact h1)
  have hsl : (splice z i [x]).length = cap := by rw [length_splice _ _ _ (by simp; omega), hz1]
  have hcell2 : ∀ j p, ps[j]? = some p → w2.cell? ⟨g, j, none⟩ = some p := fun j p hp => hk2.cell (hk1.cell (hcell j p hp) id) (by simp; omega)
  obtain ⟨w3, hr3, hc3, hk3⟩ := run_copy_kp (P := Try.prog) w2.drew 66 66 3 41 Try.underlying66 sizeRI (some ⟨w.heap.size, i + 1, none⟩) (some ⟨g, i, none⟩) (ps.length - i) (cap - (i + 1)) (ps.length - i) (c - i) w.heap.size (i + 1) (splice z i [x]) 41 hc2 (ps.drop i)
    (by rw [hdl]; simp only [Nat.min_def]; split <;> omega) (fun _ => ⟨rfl, _, rfl, fun j v hv => by rw [add_plain]; rw [List.getElem?_drop] at hv; exact hcell2 _ _ hv⟩) (by rw [hdl, hsl]; omega) (fun v hv => h2 v (List.mem_of_mem_drop hv))
  have hfin := splice_new z ps [x] i i ps.length hzt rfl (Nat.le_refl _) (by omega) (by simp; omega)
  have hsl2 : (splice (splice z i [x]) (i + 1) (ps.drop i)).length = cap := by rw [length_splice _ _ _ (by rw [hdl, hsl]; omega), hsl]
  have hlen3 : (ps.take i ++ x :: ps.drop i).length = ps.length + 1 := by simp; omega
  have hend : rowToI w base (.slice (some ⟨g, 0, none⟩) ps.length c) (ps.take i ++ x :: ps.drop i) (.returned (.slice (some ⟨w.heap.size, 0, none⟩) (ps.length + 1) cap)) w3 := by
    refine ⟨_, rfl, ?_, ?_, .inr ⟨_, rfl, Nat.le_refl _⟩⟩
    · rw [hlen3]
      refine own_mk hc3 hsl2 ?_ hb hzm hzc hlen3
      simp only [List.length_singleton] at hfin
      rw [show i + 1 + (ps.length - i) = ps.length + 1 from by omega] at hfin
      simpa using hfin
    · refine ((hk1.trans (bad' := fun k => k = w.heap.size) hk2 (fun k hk e => by omega)).drew.trans hk3 (fun k hk e => by omega)).mono (fun _ _ e => e.elim)
  have HEND := Lib.hid hend
  have HR1 := Lib.hid hr1
  have HR2 := Lib.hid hr2
  have hci : ¬ (c = i) := by omega
  have hcp : ¬ (cap = i) := by omega
  have hcp1 : ¬ (cap = i + 1) := by omega
  have hw1 : IntKind.i64.wrap ((i : Int) + 1) = (i : Int) + 1 := by rw [IntKind.wrap_i64]; omega
  have hb1 : (0 : Int) ≤ (i : Int) + 1 := by omega
  have htn : ((i : Int) + 1).toNat = i + 1 := by omega
  have hb3 : (i : Int) ≤ (ps.length : Int) := by omega
  have hb4 : (i : Int) ≤ (ps.length : Int) + 1 := by omega
  have hcm1 : c ≤ 9223372036854775807 := by simpa [maxLen] using hcm
  have hcm2 : cap ≤ 9223372036854775807 := by simpa [maxLen] using hzm
  clear hend hfin hsl2 hlen3 hsl hc2 hk2 hc1 hk1 hc3 hk3 hcur hv hct ho hcs hcell hcell2 hdl hvb1 hr1 hr2 hrt hzt hz1 hcm hzm
  go_enter Try.func44, Try.ntmps44
  go_wp2_with (first
    | (at_builtin; refine Lib.wpList_append_run _ rfl (.tmp 34) (.tmp 39) _ _ rfl _ _ rfl rfl _ _ HR1.out ?_)
    | (refine wpList_copy_run _ rfl (.tmp 43) (.tmp 44) 66 66 rfl _ _ rfl rfl HR2.out ?_))
  go_region_law (refine step_copy_run _ rfl (.tmp 50) (.tmp 53) 66 66 rfl _ _ (by simp [Act.eval, Act.put]) (by simp [Act.eval, Act.put]) hr3 ?_)
  go_wp2
  go_ret
  exact HEND.out
end Go.Proofs.Ytciandflgmmjaaa
