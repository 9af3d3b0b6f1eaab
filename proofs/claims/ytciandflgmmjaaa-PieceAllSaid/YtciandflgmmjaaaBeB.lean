/- slices.Insert whole; slices.Delete; slices.Replace of one element by two. -/
import Derived.Test.YtciandflgmmjaaaBdB
namespace Go.Proofs.Ytciandflgmmjaaa
set_option linter.unusedVariables false
set_option linter.unusedSimpArgs false
open Go.RowKit
theorem insert_okB (w : World) (base : Nat) (v : Value) (ps : List Value) (i vb : Nat) (x : Value) (ho : w.ownsRow base 22 1 v ps.length ps)
    (hv : w.heap[vb]? = some (.cells #[x] 22 (0, 0))) (h1 : x.oneCell' = true) (h2 : ∀ p ∈ ps, p.oneCell' = true) (hg : v.ownBlock ≠ some vb) (hb : base ≤ w.heap.size) (hi : i ≤ ps.length) (hl : ps.length ≤ 1000000) :
    Calls Try.prog 41 #[v, .int .i64 i, .slice (some ⟨vb, 0, none⟩) 1 1] w (rowToB w base v (ps.take i ++ x :: ps.drop i)) := by
  rcases Nat.lt_or_eq_of_le hi with hlt | rfl
  · obtain ⟨A, c, rfl, hnc, hcm⟩ := own_slice ho
    obtain ⟨g, rfl⟩ : ∃ g, A = some ⟨g, 0, none⟩ := by
      rcases ho.2 with ⟨h0, h3⟩ | ⟨g, cap, cur, h0, _⟩
      · omega
      · injection h0 with hA _ _
        exact ⟨g, hA⟩
    have hne : vb ≠ g := fun e => hg (by subst e; rfl)
    rcases Nat.lt_or_ge c (ps.length + 1) with h | h
    · exact insert_growB w base g c ps i vb x ho hv h1 h2 hb hlt h hl
    · exact insert_roomB w base g c ps i vb x ho hv h1 h2 hne hlt h hl
  · have hx : Rd w (.slice (some ⟨vb, 0, none⟩) 1 1) [x] := ⟨_, 1, rfl, Nat.le_refl _, by simp [maxLen], fun _ => ⟨vb, 0, rfl, fun j u hu => by
      have : j = 0 := by have := (List.getElem?_eq_some_iff.1 hu).1; simpa using this
      subst this
      rw [cell_of_row w vb _ _ _ _ hv]
      simpa using hu⟩⟩
    have := insert_endB w base v ps x _ ho hx h1 hb hl
    rwa [show ps.take ps.length ++ x :: ps.drop ps.length = ps ++ [x] from by simp]
theorem zeroRB (w : World) : (zeroValue 22).run Try.prog w = .ok (.slice none 0 0) w := by kernel_rfl
set_option maxHeartbeats 1000000 in
theorem delete_sameB (w : World) (base : Nat) (v : Value) (ps : List Value) (i : Nat) (ho : w.ownsRow base 22 1 v ps.length ps) (hi : i ≤ ps.length) (hl : ps.length ≤ 1000000) :
    Calls Try.prog 32 #[v, .int .i64 i, .int .i64 i] w (rowToB w base v (ps.take i ++ ps.drop i)) := by
  rw [List.take_append_drop]
  have H := Lib.hid ho
  obtain ⟨A, c, rfl, hnc, hcm⟩ := own_slice ho
  clear ho
  have hic : i ≤ c := by omega
  have hb1 : (i : Int) ≤ (ps.length : Int) := by omega
  by_cases hpi : ps.length = i
  · obtain rfl : i = ps.length := hpi.symm
    clear hpi
    go_enter Try.func32, Try.ntmps32
    go_wp2
    go_ret
    exact ⟨_, rfl, H.out, Kp.refl _ _, .inl rfl⟩
  · go_enter Try.func32, Try.ntmps32
    go_wp2
    go_ret
    exact ⟨_, rfl, H.out, Kp.refl _ _, .inl rfl⟩
set_option maxHeartbeats 1000000 in
theorem delete_someB (w : World) (base g c : Nat) (ps : List Value) (i j : Nat) (ho : w.ownsRow base 22 1 (.slice (some ⟨g, 0, none⟩) ps.length c) ps.length ps) (h2 : ∀ p ∈ ps, p.oneCell' = true) (hi : i < j) (hj : j ≤ ps.length) (hl : ps.length ≤ 1000000) :
    Calls Try.prog 32 #[.slice (some ⟨g, 0, none⟩) ps.length c, .int .i64 i, .int .i64 j] w (rowToB w base (.slice (some ⟨g, 0, none⟩) ps.length c) (ps.take i ++ ps.drop j)) := by
  obtain ⟨_, cur, hcur, hcs, hct, hbg, hcm, hnc, _, hcell⟩ := own_row ho
  have hcm1 : c ≤ 9223372036854775807 := by simpa [maxLen] using hcm
  have hdl : (ps.drop j).length = ps.length - j := List.length_drop
  have hrd := (Rd.of_own ho).drop_ hj
  obtain ⟨w1, hr1, hc1, hk1⟩ := run_append_room_rd (P := Try.prog) w.drew 59 59 22 Try.underlying59 sizeRB g i c cur hcur _ (ps.drop j) hrd (fun v hv => h2 v (List.mem_of_mem_drop hv)) (by rw [hdl]; omega) hcs
  rw [hdl] at hr1
  have hsl : (splice cur i (ps.drop j)).length = c := by rw [length_splice _ _ _ (by rw [hdl]; omega), hcs]
  have hrc := Lib.run_clear_slice (P := Try.prog) w1 59 22 0 (.slice none 0 0) Try.underlying59 zeroRB rfl rfl g (i + (ps.length - j)) (j - i) (c - (i + (ps.length - j))) (by omega)
    (fun k hk => by rw [cell_of_row w1 g _ _ _ _ hc1, List.getElem?_toArray, List.getElem?_eq_getElem (by rw [hsl]; omega)]; rfl) (fun k hk => by rw [frozen_of_row w1 g _ _ _ hc1])
  obtain ⟨cur2, hc2, hl2, ht2, hk2⟩ := heap_setCells g 22 (List.replicate (j - i) (.slice none 0 0)) (i + (ps.length - j)) w1 _ hc1
  have hfin : cur2.take (i + (ps.length - j)) = ps.take i ++ ps.drop j := by
    rw [ht2]
    have := splice_take cur (ps.drop j) i (by omega)
    rw [hdl] at this
    rw [this, ← hct, List.take_take, Nat.min_eq_left (by omega)]
  have hlen3 : (ps.take i ++ ps.drop j).length = i + (ps.length - j) := by simp; omega
  have hend : rowToB w base (.slice (some ⟨g, 0, none⟩) ps.length c) (ps.take i ++ ps.drop j) (.returned (.slice (some ⟨g, 0, none⟩) (i + (ps.length - j)) c)) (w1.setCells g (i + (ps.length - j)) (List.replicate (j - i) (.slice none 0 0))) := by
    refine ⟨_, rfl, ?_, ?_, .inl rfl⟩
    · rw [hlen3]
      exact own_mk hc2 (by rw [hl2, hsl]) hfin hbg hcm (by omega) hlen3
    · exact ((((Kp.refl w (fun k => k = g)).drew).trans hk1 (fun _ _ e => e)).trans hk2 (fun _ _ e => e)).mono fun k _ e => by subst e; rfl
  have HEND := Lib.hid hend
  have HR1 := Lib.hid hr1
  have HRC := Lib.hid hrc
  have hne : ((i : Int) == (j : Int)) = false := by simp; omega
  have hb1 : (i : Int) ≤ (ps.length : Int) := by omega
  have hb2 : (j : Int) ≤ (ps.length : Int) := by omega
  have hb3 : (i : Int) ≤ (j : Int) := by omega
  have hic : i ≤ c := by omega
  have hci : ¬ (c = i) := by omega
  have hci2 : ¬ (c = i + (ps.length - j)) := by omega
  clear hend hr1 hrc hfin hlen3 hc2 hk2 hl2 ht2 hc1 hk1 hsl hcur hcs hct ho hcell hrd hdl hcm
  by_cases hcj : c = j
  · have hr1 := HR1.out
    rw [if_pos hcj] at hr1
    clear HR1
    obtain rfl : c = ps.length := by omega
    obtain rfl : j = ps.length := hcj.symm
    simp only [Nat.sub_self, Nat.add_zero] at hr1 HEND
    have HR1 := Lib.hid hr1
    clear hr1 hcj
    go_enter Try.func32, Try.ntmps32
    go_wp2
    go_region_law (refine step_append_run _ rfl (.tmp 22) (.tmp 25) 59 59 rfl _ _ (by simp [Act.eval, Act.put]) (by simp [Act.eval, Act.put]) HR1.out ?_)
    have hrc := HRC.out
    simp only [Nat.sub_self, Nat.add_zero] at hrc
    clear HRC
    have HRC := Lib.hid hrc
    clear hrc
    go_wp2_with (refine wpList_clear_run _ rfl (.tmp 31) 59 rfl _ rfl HRC.out ?_)
    go_ret
    exact HEND.out
  · have hr1 := HR1.out
    rw [if_neg hcj] at hr1
    simp only [Option.map_some, add_plain, Nat.zero_add] at hr1
    clear HR1
    have HR1 := Lib.hid hr1
    clear hr1
    go_enter Try.func32, Try.ntmps32
    go_wp2
    go_region_law (refine step_append_run _ rfl (.tmp 22) (.tmp 25) 59 59 rfl _ _ (by simp [Act.eval, Act.put]) (by simp [Act.eval, Act.put]) HR1.out ?_)
    have hrc := HRC.out
    rw [show j - i = ps.length - (i + (ps.length - j)) from by omega] at hrc
    clear HRC
    have HRC := Lib.hid hrc
    clear hrc
    go_wp2_with (refine wpList_clear_run _ rfl (.tmp 31) 59 rfl _ rfl HRC.out ?_)
    go_ret
    have hend := HEND.out
    rw [show j - i = ps.length - (i + (ps.length - j)) from by omega] at hend
    exact hend
theorem delete_okB (w : World) (base : Nat) (v : Value) (ps : List Value) (i j : Nat) (ho : w.ownsRow base 22 1 v ps.length ps) (h2 : ∀ p ∈ ps, p.oneCell' = true) (hi : i ≤ j) (hj : j ≤ ps.length) (hl : ps.length ≤ 1000000) :
    Calls Try.prog 32 #[v, .int .i64 i, .int .i64 j] w (rowToB w base v (ps.take i ++ ps.drop j)) := by
  rcases Nat.lt_or_eq_of_le hi with hlt | rfl
  · obtain ⟨A, c, rfl, hnc, hcm⟩ := own_slice ho
    obtain ⟨g, rfl⟩ : ∃ g, A = some ⟨g, 0, none⟩ := by
      rcases ho.2 with ⟨h0, h3⟩ | ⟨g, cap, cur, h0, _⟩
      · omega
      · injection h0 with hA _ _
        exact ⟨g, hA⟩
    exact delete_someB w base g c ps i j ho h2 hlt hj hl
  · exact delete_sameB w base v ps i ho (by omega) hl
set_option maxRecDepth 100000 in
set_option maxHeartbeats 1000000 in
/-- One element by two, the last one. -/
theorem replace_endB (w : World) (base g c : Nat) (ps : List Value) (i vb : Nat) (x y : Value) (ho : w.ownsRow base 22 1 (.slice (some ⟨g, 0, none⟩) ps.length c) ps.length ps)
    (hv : w.heap[vb]? = some (.cells #[x, y] 22 (0, 0))) (h1 : x.oneCell' = true) (h1' : y.oneCell' = true) (hi : i + 1 = ps.length) (hb : base ≤ w.heap.size) (hl : ps.length ≤ 1000000) :
    Calls Try.prog 43 #[.slice (some ⟨g, 0, none⟩) ps.length c, .int .i64 i, .int .i64 (i + 1 : Nat), .slice (some ⟨vb, 0, none⟩) 2 2] w (rowToB w base (.slice (some ⟨g, 0, none⟩) ps.length c) (ps.take i ++ x :: y :: ps.drop (i + 1))) := by
  obtain ⟨_, cur, hcur, hcs, hct, hbg, hcm, hnc, _, hcell⟩ := own_row ho
  have hcm1 : c ≤ 9223372036854775807 := by simpa [maxLen] using hcm
  have hrd : Rd w (.slice (some ⟨vb, 0, none⟩) 2 2) [x, y] := ⟨_, 2, rfl, Nat.le_refl _, by simp [maxLen], fun _ => ⟨vb, 0, rfl, fun j u hu => by
      rw [cell_of_row w vb _ _ _ _ hv]
      simpa using hu⟩⟩
  have hot := own_take ho (i := i) (by omega)
  have htl : (ps.take i).length = i := by rw [List.length_take]; omega
  have H := Lib.hid hot
  have HR := Lib.hid hrd
  have hic : i ≤ c := by omega
  have hci : ¬ (c = i) := by omega
  have hb1 : (i : Int) ≤ (ps.length : Int) := by omega
  have hne : ((i : Int) == ((i + 1 : Nat) : Int)) = false := by simp; omega
  have hdr : ps.drop (i + 1) = [] := List.drop_eq_nil_of_le (by omega)
  rw [hdr]
  have hrl := Lib.hid hi
  have htl := Lib.hid htl
  clear hrd hot ho hv hcur hcs hct hcell hdr hcm
  have hl2 : (ps.take i ++ [x, y]).length = i + 2 := by rw [List.length_append, htl.out]; rfl
  have HL2 := Lib.hid hl2
  clear hl2
  go_enter Try.func43, Try.ntmps43
  go_wp2_with (at_builtin; refine wpList_append_rd _ rfl (.tmp 32) (.tmp 33) _ rfl base 22 _ _ Try.underlying59 infoRB rfl _ (ps.take i) rfl (by rw [htl.out]; exact H.out) (some g) rfl _ [x, y] rfl HR.out (by intro u hu; simp at hu; rcases hu with rfl | rfl <;> assumption) (by rw [htl.out]; simp; omega) (by rw [htl.out]; simp; omega) hb ?_; intro v1 w1 hown hg hat; rw [HL2.out] at hown; have HO := Lib.hid hown; have HG := Lib.hid hg; have HA := Lib.hid hat; obtain ⟨A1, c1, rfl, hc1, hc2⟩ := own_slice hown; clear hown hg hat)
  go_ret
  exact ⟨_, rfl, by rw [HL2.out]; exact HO.out, Kp.of_grown HG.out, HA.out.imp id fun e => ⟨_, e, Nat.le_refl _⟩⟩
end Go.Proofs.Ytciandflgmmjaaa
