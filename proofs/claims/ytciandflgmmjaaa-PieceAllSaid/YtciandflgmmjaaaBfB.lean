/- slices.Replace of one element by two, in the middle. -/
import Derived.Test.YtciandflgmmjaaaBeB
namespace Go.Proofs.Ytciandflgmmjaaa
set_option linter.unusedVariables false
set_option linter.unusedSimpArgs false
open Go.RowKit
set_option maxRecDepth 100000 in
set_option maxHeartbeats 1000000 in
/-- In place. -/
theorem replace_roomB (w : World) (base g c : Nat) (ps : List Value) (i vb : Nat) (x y : Value) (ho : w.ownsRow base 22 1 (.slice (some ⟨g, 0, none⟩) ps.length c) ps.length ps)
    (hv : w.heap[vb]? = some (.cells #[x, y] 22 (0, 0))) (h1 : x.oneCell' = true) (h1' : y.oneCell' = true) (h2 : ∀ p ∈ ps, p.oneCell' = true) (hg : vb ≠ g) (hi : i + 1 < ps.length) (hroom : ps.length + 1 ≤ c) (hl : ps.length ≤ 1000000) :
    Calls Try.prog 43 #[.slice (some ⟨g, 0, none⟩) ps.length c, .int .i64 i, .int .i64 ((i : Int) + 1), .slice (some ⟨vb, 0, none⟩) 2 2] w (rowToB w base (.slice (some ⟨g, 0, none⟩) ps.length c) (ps.take i ++ x :: y :: ps.drop (i + 1))) := by
  obtain ⟨_, cur, hcur, hcs, hct, hbg, hcm, hnc, _, hcell⟩ := own_row ho
  have hcm1 : c ≤ 9223372036854775807 := by simpa [maxLen] using hcm
  have hov : ∀ nq la ca, (callFunc 47 #[.slice (some ⟨g, i + 2, none⟩) la ca, .slice (some ⟨vb, 0, none⟩) 2 2]).run Try.prog (w.drewN nq) = .ok (.value (.bool false)) (w.drewN nq) := fun nq la ca => by
    rw [run_callFunc_extern Try.func47 (by kernel_rfl) (by kernel_rfl) (by kernel_rfl) (e := Extern.SlicesOverlaps.overlaps #[59, 59] #[4]) (by kernel_rfl),
      Lib.run_overlaps_apart (w.drewN nq) 59 4 22 Try.underlying59 1 sizeofRB ⟨g, i + 2, none⟩ ⟨vb, 0, none⟩ la ca 2 2 (fun e => hg e.symm) 22 22 c 2 (by show w.shape? g = _; simp [World.shape?, hcur, hcs]) (by show w.shape? vb = _; simp [World.shape?, hv]) (by omega) (by show w.frozen? _ = _; simp [World.frozen?, hcur]) (by show w.frozen? _ = _; simp [World.frozen?, hcur])]
    rfl
  have hdl : (ps.drop (i + 1)).length = ps.length - (i + 1) := List.length_drop
  have hall : ∀ nq, ∃ r1 w1 r2 w2, (Builtin.copy_ #[59, 59] 3 #[.slice (some ⟨g, i + 2, none⟩) (ps.length - (i + 1)) (c - (i + 2)), .slice (some ⟨g, i + 1, none⟩) (ps.length - (i + 1)) (c - (i + 1))]).run Try.prog (w.drewN nq).drew = .ok r1 w1 ∧
      (Builtin.copy_ #[59, 59] 3 #[.slice (some ⟨g, i, none⟩) (ps.length + 1 - i) (c - i), .slice (some ⟨vb, 0, none⟩) 2 2]).run Try.prog w1 = .ok r2 w2 ∧
      rowToB w base (.slice (some ⟨g, 0, none⟩) ps.length c) (ps.take i ++ x :: y :: ps.drop (i + 1)) (.returned (.slice (some ⟨g, 0, none⟩) (ps.length + 1) c)) w2 := by
    intro nq
    obtain ⟨w1, hr1, hc1, hk1⟩ := run_copy_kp (P := Try.prog) (w.drewN nq).drew 59 59 3 22 Try.underlying59 sizeRB (some ⟨g, i + 2, none⟩) (some ⟨g, i + 1, none⟩) (ps.length + 1 - (i + 2)) (c - (i + 2)) (ps.length - (i + 1)) (c - (i + 1)) g (i + 2) cur 22 hcur (ps.drop (i + 1))
      (by rw [hdl]; simp only [Nat.min_def]; split <;> omega) (fun _ => ⟨rfl, _, rfl, fun j v hv => by rw [add_plain]; rw [List.getElem?_drop] at hv; exact hcell _ _ hv⟩) (by rw [hdl, hcs]; omega) (fun v hv => h2 v (List.mem_of_mem_drop hv))
    have hsl : (splice cur (i + 2) (ps.drop (i + 1))).length = c := by rw [length_splice _ _ _ (by rw [hdl, hcs]; omega), hcs]
    obtain ⟨w2, hr2, hc2, hk2⟩ := run_copy_kp (P := Try.prog) w1 59 59 3 22 Try.underlying59 sizeRB (some ⟨g, i, none⟩) (some ⟨vb, 0, none⟩) (ps.length + 1 - i) (c - i) 2 2 g i (splice cur (i + 2) (ps.drop (i + 1))) 22 hc1 [x, y]
      (by simp only [List.length_cons, List.length_nil, Nat.min_def]; split <;> omega) (fun _ => ⟨rfl, _, rfl, fun j v hj => by
        rw [add_plain]
        refine hk1.cell (p := ⟨vb, 0 + j, none⟩) ?_ hg
        show w.cell? _ = _
        rw [cell_of_row w vb _ _ _ _ hv]
        simpa using hj⟩) (by rw [hsl]; simp; omega) (fun v hv => by simp at hv; rcases hv with rfl | rfl <;> assumption)
    have hfin := splice_two cur ps [x, y] i (i + 1) ps.length hct (by omega) (by omega) (by omega) (by simp; omega)
    have hsl2 : (splice (splice cur (i + 2) (ps.drop (i + 1))) i [x, y]).length = c := by rw [length_splice _ _ _ (by rw [hsl]; simp; omega), hsl]
    have hlen3 : (ps.take i ++ x :: y :: ps.drop (i + 1)).length = ps.length + 1 := by simp; omega
    have hend : rowToB w base (.slice (some ⟨g, 0, none⟩) ps.length c) (ps.take i ++ x :: y :: ps.drop (i + 1)) (.returned (.slice (some ⟨g, 0, none⟩) (ps.length + 1) c)) w2 := by
      refine ⟨_, rfl, ?_, ?_, .inl rfl⟩
      · rw [hlen3]
        refine own_mk hc2 hsl2 ?_ hbg hcm (by omega) hlen3
        simp only [List.length_cons, List.length_nil] at hfin
        rw [show i + (0 + 1 + 1) + (ps.length - (i + 1)) = ps.length + 1 from by omega, show i + (0 + 1 + 1) = i + 2 from by omega] at hfin
        simpa using hfin
      · exact (((((Kp.refl w (fun k => k = g)).drewN nq).drew).trans hk1 (fun _ _ e => e)).trans hk2 (fun _ _ e => e)).mono fun k _ e => by subst e; rfl
    rw [show ps.length + 1 - (i + 2) = ps.length - (i + 1) from by omega] at hr1
    exact ⟨_, w1, _, w2, hr1, hr2, hend⟩
  have HALL := Lib.hid hall
  have HOV := Lib.hid hov
  have hne : ((i : Int) == (i : Int) + 1) = false := by rw [beq_eq_false_iff_ne]; omega
  have hne2 : ((i : Int) + 1 == (ps.length : Int)) = false := by rw [beq_eq_false_iff_ne]; omega
  have hw1 : IntKind.i64.wrap ((i : Int) + 2) = (i : Int) + 2 := by rw [IntKind.wrap_i64]; omega
  have hw2 : IntKind.i64.wrap ((i : Int) + 2 + ((ps.length - (i + 1) : Nat) : Int)) = (ps.length : Int) + 1 := by rw [IntKind.wrap_i64]; omega
  have hb1 : (i : Int) ≤ (ps.length : Int) := by omega
  have hb2 : (i : Int) + 1 ≤ (ps.length : Int) := by omega
  have hb3 : (0 : Int) ≤ (i : Int) + 1 := by omega
  have hb4 : (0 : Int) ≤ (i : Int) + 2 := by omega
  have hb5 : (i : Int) + 2 ≤ (ps.length : Int) + 1 := by omega
  have hb6 : (i : Int) ≤ (ps.length : Int) + 1 := by omega
  have ht1 : ((i : Int) + 1).toNat = i + 1 := by omega
  have ht2 : ((i : Int) + 2).toNat = i + 2 := by omega
  have ht3 : ((ps.length : Int) + 1).toNat = ps.length + 1 := by omega
  have hic : i ≤ c := by omega
  have hci : ¬ (c = i) := by omega
  have hci1 : ¬ (c = i + 1) := by omega
  have hci2 : ¬ (c = i + 2) := by omega
  clear hall hcur hv hct ho hcs hcell hdl hov hcm
  go_enter Try.func43, Try.ntmps43
  go_wp2
  go_quiet (fail)
  go_wp2_with (simp only [HOV.out])
  obtain ⟨r1, w1, r2, w2, hr1, hr2, hend⟩ := HALL.out nq
  have HEND := Lib.hid hend
  have HR2 := Lib.hid hr2
  have HR1 := Lib.hid hr1
  clear hend hr2 hr1
  go_region_law (refine step_copy_run _ rfl (.tmp 126) (.tmp 129) 59 59 rfl _ _ (by simp [Act.eval, Act.put]) (by simp [Act.eval, Act.put]) HR1.out ?_)
  go_wp2_with (refine wpList_copy_run _ rfl (.tmp 133) (.tmp 134) 59 59 rfl _ _ rfl rfl HR2.out ?_)
  go_ret
  exact HEND.out
set_option maxRecDepth 100000 in
set_option maxHeartbeats 1000000 in
/-- No room: a new row. -/
theorem replace_growB (w : World) (base g c : Nat) (ps : List Value) (i vb : Nat) (x y : Value) (ho : w.ownsRow base 22 1 (.slice (some ⟨g, 0, none⟩) ps.length c) ps.length ps)
    (hv : w.heap[vb]? = some (.cells #[x, y] 22 (0, 0))) (h1 : x.oneCell' = true) (h1' : y.oneCell' = true) (h2 : ∀ p ∈ ps, p.oneCell' = true) (hb : base ≤ w.heap.size) (hi : i + 1 < ps.length) (hroom : c < ps.length + 1) (hl : ps.length ≤ 1000000) :
    Calls Try.prog 43 #[.slice (some ⟨g, 0, none⟩) ps.length c, .int .i64 i, .int .i64 ((i : Int) + 1), .slice (some ⟨vb, 0, none⟩) 2 2] w (rowToB w base (.slice (some ⟨g, 0, none⟩) ps.length c) (ps.take i ++ x :: y :: ps.drop (i + 1))) := by
  obtain ⟨_, cur, hcur, hcs, hct, hbg, hcm, hnc, _, hcell⟩ := own_row ho
  have hcm1 : c ≤ 9223372036854775807 := by simpa [maxLen] using hcm
  have hgw : g < w.heap.size := (Array.getElem?_eq_some_iff.1 hcur).1
  have hvw : vb < w.heap.size := (Array.getElem?_eq_some_iff.1 hv).1
  have hdl : (ps.drop (i + 1)).length = ps.length - (i + 1) := List.length_drop
  have hrt := (Rd.of_own ho).take_ (i := i) (c' := c) (by omega) (by omega) (Nat.le_refl _)
  have hall : ∀ nq, ∃ cap w1 r2 w2 r3 w3, cap ≤ 9223372036854775807 ∧ ps.length + 1 ≤ cap ∧ (Builtin.append_ #[59, 3] 59 #[.slice (some ⟨g, 0, none⟩) i c, .int .i64 ((ps.length : Int) + 1 - (i : Int))]).run Try.prog (w.drewN nq) = .ok (.slice (some ⟨w.heap.size, 0, none⟩) (ps.length + 1) cap) w1 ∧
      (Builtin.copy_ #[59, 59] 3 #[.slice (some ⟨w.heap.size, i, none⟩) (ps.length + 1 - i) (cap - i), .slice (some ⟨vb, 0, none⟩) 2 2]).run Try.prog w1 = .ok r2 w2 ∧
      (Builtin.copy_ #[59, 59] 3 #[.slice (some ⟨w.heap.size, i + 2, none⟩) (ps.length + 1 - (i + 2)) (cap - (i + 2)), .slice (some ⟨g, i + 1, none⟩) (ps.length - (i + 1)) (c - (i + 1))]).run Try.prog w2.drew = .ok r3 w3 ∧
      rowToB w base (.slice (some ⟨g, 0, none⟩) ps.length c) (ps.take i ++ x :: y :: ps.drop (i + 1)) (.returned (.slice (some ⟨w.heap.size, 0, none⟩) (ps.length + 1) cap)) w3 := by
    intro nq
    obtain ⟨cap, z, w1, hr1, hc1, hz1, hzc, hzm, hzt, hk1⟩ := run_append_zeros_rd (P := Try.prog) (w.drewN nq) 59 3 59 22 (.slice none 0 0) 24 .i64 .i64 Try.underlying59 Try.underlying3 infoRB rfl i c _ (ps.take i) (by rw [List.length_take]; omega) hrt (ps.length + 1 - i) (by omega) (by omega) (by omega) (by omega)
    rw [show i + (ps.length + 1 - i) = ps.length + 1 from by omega] at hr1 hzc
    rw [show ((ps.length + 1 - i : Nat) : Int) = (ps.length : Int) + 1 - (i : Int) from by omega] at hr1
    obtain ⟨w2, hr2, hc2, hk2⟩ := run_copy_kp (P := Try.prog) w1 59 59 3 22 Try.underlying59 sizeRB (some ⟨w.heap.size, i, none⟩) (some ⟨vb, 0, none⟩) (ps.length + 1 - i) (cap - i) 2 2 w.heap.size i z 22 hc1 [x, y]
      (by simp only [List.length_cons, List.length_nil, Nat.min_def]; split <;> omega) (fun _ => ⟨rfl, _, rfl, fun j v hj => by
        rw [add_plain]
        refine hk1.cell (p := ⟨vb, 0 + j, none⟩) ?_ id
        show w.cell? _ = _
        rw [cell_of_row w vb _ _ _ _ hv]
        simpa using hj⟩) (by simp; omega) (fun v hv => by simp at hv; rcases hv with rfl | rfl <;> assumption)
    have hsl : (splice z i [x, y]).length = cap := by rw [length_splice _ _ _ (by simp; omega), hz1]
    have hcell2 : ∀ j p, ps[j]? = some p → w2.cell? ⟨g, j, none⟩ = some p := fun j p hp => hk2.cell (hk1.cell (p := ⟨g, j, none⟩) (hcell j p hp) id) (by simp; omega)
    obtain ⟨w3, hr3, hc3, hk3⟩ := run_copy_kp (P := Try.prog) w2.drew 59 59 3 22 Try.underlying59 sizeRB (some ⟨w.heap.size, i + 2, none⟩) (some ⟨g, i + 1, none⟩) (ps.length + 1 - (i + 2)) (cap - (i + 2)) (ps.length - (i + 1)) (c - (i + 1)) w.heap.size (i + 2) (splice z i [x, y]) 22 hc2 (ps.drop (i + 1))
      (by rw [hdl]; simp only [Nat.min_def]; split <;> omega) (fun _ => ⟨rfl, _, rfl, fun j v hv => by rw [add_plain]; rw [List.getElem?_drop] at hv; exact hcell2 _ _ hv⟩) (by rw [hdl, hsl]; omega) (fun v hv => h2 v (List.mem_of_mem_drop hv))
    have hfin := splice_new z ps [x, y] i (i + 1) ps.length hzt rfl (by omega) (by omega) (by simp; omega)
    have hsl2 : (splice (splice z i [x, y]) (i + 2) (ps.drop (i + 1))).length = cap := by rw [length_splice _ _ _ (by rw [hdl, hsl]; omega), hsl]
    have hlen3 : (ps.take i ++ x :: y :: ps.drop (i + 1)).length = ps.length + 1 := by simp; omega
    refine ⟨cap, w1, _, w2, _, w3, by simpa [maxLen] using hzm, hzc, hr1, hr2, hr3, _, rfl, ?_, ?_, .inr ⟨_, rfl, Nat.le_refl _⟩⟩
    · rw [hlen3]
      refine own_mk hc3 hsl2 ?_ hb hzm hzc hlen3
      simp only [List.length_cons, List.length_nil] at hfin
      rw [show i + (0 + 1 + 1) + (ps.length - (i + 1)) = ps.length + 1 from by omega, show i + (0 + 1 + 1) = i + 2 from by omega] at hfin
      simpa using hfin
    · exact ((((Kp.refl w nob).drewN nq).trans hk1 (fun _ _ e => e)).trans (bad' := fun k => k = w.heap.size) hk2 (fun k hk e => by omega)).drew.trans (bad' := fun k => k = w.heap.size) hk3 (fun k hk e => by omega) |>.mono (fun _ _ e => e.elim)
  have HALL := Lib.hid hall
  have hne : ((i : Int) == (i : Int) + 1) = false := by rw [beq_eq_false_iff_ne]; omega
  have hne2 : ((i : Int) + 1 == (ps.length : Int)) = false := by rw [beq_eq_false_iff_ne]; omega
  have hw1 : IntKind.i64.wrap ((i : Int) + 2) = (i : Int) + 2 := by rw [IntKind.wrap_i64]; omega
  have hw2 : IntKind.i64.wrap ((i : Int) + 2 + ((ps.length - (i + 1) : Nat) : Int)) = (ps.length : Int) + 1 := by rw [IntKind.wrap_i64]; omega
  have hb1 : (i : Int) ≤ (ps.length : Int) := by omega
  have hb2 : (i : Int) + 1 ≤ (ps.length : Int) := by omega
  have hb3 : (0 : Int) ≤ (i : Int) + 1 := by omega
  have hb4 : (0 : Int) ≤ (i : Int) + 2 := by omega
  have hb5 : (i : Int) + 2 ≤ (ps.length : Int) + 1 := by omega
  have hb6 : (i : Int) ≤ (ps.length : Int) + 1 := by omega
  have ht1 : ((i : Int) + 1).toNat = i + 1 := by omega
  have ht2 : ((i : Int) + 2).toNat = i + 2 := by omega
  have hic : i ≤ c := by omega
  have hci : ¬ (c = i) := by omega
  have hci1 : ¬ (c = i + 1) := by omega
  clear hall hcur hv hct ho hcs hcell hdl hcm hrt
  go_enter Try.func43, Try.ntmps43
  go_wp2
  go_quiet (fail)
  obtain ⟨cap, w1, r2, w2, r3, w3, hcap, hcap1, hr1, hr2, hr3, hend⟩ := HALL.out nq
  have HEND := Lib.hid hend
  have HR3 := Lib.hid hr3
  have HR2 := Lib.hid hr2
  have HR1 := Lib.hid hr1
  clear hend hr2 hr1 hr3
  have hcp : ¬ (cap = i) := by omega
  have hcp1 : ¬ (cap = i + 2) := by omega
  go_wp2_with (first
    | (at_builtin; refine Lib.wpList_append_run _ rfl (.tmp 63) (.tmp 66) _ _ rfl _ _ rfl rfl _ _ HR1.out ?_)
    | (refine wpList_copy_run _ rfl (.tmp 70) (.tmp 71) 59 59 rfl _ _ rfl rfl HR2.out ?_))
  go_region_law (refine step_copy_run _ rfl (.tmp 78) (.tmp 81) 59 59 rfl _ _ (by simp [Act.eval, Act.put]) (by simp [Act.eval, Act.put]) HR3.out ?_)
  go_wp2
  go_ret
  exact HEND.out
theorem replace_okB (w : World) (base : Nat) (v : Value) (ps : List Value) (i vb : Nat) (x y : Value) (ho : w.ownsRow base 22 1 v ps.length ps)
    (hv : w.heap[vb]? = some (.cells #[x, y] 22 (0, 0))) (h1 : x.oneCell' = true) (h1' : y.oneCell' = true) (h2 : ∀ p ∈ ps, p.oneCell' = true) (hg : v.ownBlock ≠ some vb) (hb : base ≤ w.heap.size) (hi : i < ps.length) (hl : ps.length ≤ 1000000) :
    Calls Try.prog 43 #[v, .int .i64 i, .int .i64 ((i : Int) + 1), .slice (some ⟨vb, 0, none⟩) 2 2] w (rowToB w base v (ps.take i ++ x :: y :: ps.drop (i + 1))) := by
  obtain ⟨A, c, rfl, hnc, hcm⟩ := own_slice ho
  obtain ⟨g, rfl⟩ : ∃ g, A = some ⟨g, 0, none⟩ := by
    rcases ho.2 with ⟨h0, h3⟩ | ⟨g, cap, cur, h0, _⟩
    · omega
    · injection h0 with hA _ _
      exact ⟨g, hA⟩
  have hne : vb ≠ g := fun e => hg (by subst e; rfl)
  rcases Nat.lt_or_ge (i + 1) ps.length with hlt | hge
  · rcases Nat.lt_or_ge c (ps.length + 1) with h | h
    · exact replace_growB w base g c ps i vb x y ho hv h1 h1' h2 hb hlt h hl
    · exact replace_roomB w base g c ps i vb x y ho hv h1 h1' h2 hne hlt h hl
  · have := replace_endB w base g c ps i vb x y ho hv h1 h1' (by omega) hb hl
    rwa [show ((i + 1 : Nat) : Int) = (i : Int) + 1 from by omega] at this
end Go.Proofs.Ytciandflgmmjaaa
