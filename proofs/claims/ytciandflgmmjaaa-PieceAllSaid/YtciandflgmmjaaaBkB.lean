/- The table's Slice. -/
import Derived.Test.YtciandflgmmjaaaBjB
import Derived.Test.YtciandflgmmjaaaWd
namespace Go.Proofs.Ytciandflgmmjaaa
set_option linter.unusedVariables false
set_option linter.unusedSimpArgs false
open Go.RowKit Go.Shelf
def errToB (w : World) (e : Ending) (w' : World) : Prop := e = .returned (.tuple #[.slice none 0 0, .int .i64 9]) ∧ Kp w w' nob
set_option maxHeartbeats 1000000 in
theorem slice_errB (w : World) (base t : Nat) (v : Value) (L : List (List Value)) (a b : Int) (h : Tab w base 61 22 5 t v L) (hL : lens L ≤ 1000000) (hab : ¬ (0 ≤ a ∧ a ≤ b ∧ b ≤ lens L)) :
    Calls Try.prog 15 #[.pointer (some ⟨t, 0, none⟩), .int .i64 a, .int .i64 b] w (errToB w) := by
  have hk2 : Kp w ((w.alloc (.cells #[.int .i64 a] 3)).alloc (.cells #[.int .i64 b] 3)) nob := ((Kp.refl w nob).alloc _).alloc _
  have hT2 : Tab ((w.alloc (.cells #[.int .i64 a] 3)).alloc (.cells #[.int .i64 b] 3)) base 61 22 5 t v L := h.kp hk2 id (fun _ _ e => e) (fun _ _ _ _ e => e)
  have hc0 := hT2.cell0
  have hlen := fun nq => len_tabB (((w.alloc (.cells #[.int .i64 a] 3)).alloc (.cells #[.int .i64 b] 3)).drewN nq) base t v L (hT2.kp ((Kp.refl _ nob).drewN nq) id (fun _ _ e => e) (fun _ _ _ _ e => e)) hL
  have HN := Lib.hid hlen
  have htw : t < w.heap.size := block_lt_of_cell h.cell0
  clear hlen h hT2
  by_cases h0 : a < 0
  · have hd : decide (a < 0) = true := by simpa using h0
    go_enter Try.func15, Try.ntmps15
    go_wp2_with (go_at_call 30; refine (none_ptrB _ _ _ hc0).mono ?_; rintro e w' ⟨rfl, rfl⟩)
    go_quiet (fail)
    go_wp2
    go_ret2
    exact ⟨rfl, hk2.drewN _⟩
  · by_cases h1 : b < a
    · have hd : decide (a < 0) = false := by simpa using h0
      have hd2 : decide (b < a) = true := by simpa using h1
      go_enter Try.func15, Try.ntmps15
      go_wp2_with (go_at_call 30; refine (none_ptrB _ _ _ hc0).mono ?_; rintro e w' ⟨rfl, rfl⟩)
      go_quiet (fail)
      go_wp2
      go_ret2
      exact ⟨rfl, hk2.drewN _⟩
    · have h2 : (lens L : Int) < b := by omega
      have hd : decide (a < 0) = false := by simpa using h0
      have hd2 : decide (b < a) = false := by simpa using h1
      have hd3 : decide ((lens L : Int) < b) = true := by simpa using h2
      clear hab
      go_enter Try.func15, Try.ntmps15
      go_wp2_with (go_at_call 30; refine (none_ptrB _ _ _ hc0).mono ?_; rintro e w' ⟨rfl, rfl⟩)
      go_quiet ((go_at_call 17; exact Calls.quiet_of_same ((HN.out _).mono fun e w' ⟨he, hw⟩ => ⟨he, hw.symm⟩)))
      go_wp2
      go_ret2
      exact ⟨rfl, hk2.drewN _⟩
/-- A new row of numbers, beside no error. -/
def rowOfB (w : World) (xs : List Int) (e : Ending) (w' : World) : Prop :=
  ∃ u, e = .returned (.tuple #[u, .int .i64 0]) ∧ w'.ownsRow w.heap.size 5 1 u xs.length (xs.map (Value.int .u8)) ∧ Kp w w' nob
/-- The world in which the loop begins. -/
def wsB (w : World) (a b t nq : Nat) : World := ((((((w.alloc (.cells #[.int .i64 a] 3)).alloc (.cells #[.int .i64 b] 3)).drewN nq).alloc (.cells #[.slice none 0 0] 22)).alloc (.cells #[.int .i64 0] 3)).alloc (.cells #[.pointer (some ⟨t, 0, none⟩)] 25))
theorem ws_factsB (w : World) (a b t nq : Nat) : Boxed (wsB w a b t nq) w.heap.size 3 (.int .i64 a) ∧ Boxed (wsB w a b t nq) (w.heap.size + 1) 3 (.int .i64 b) ∧ Boxed (wsB w a b t nq) (w.heap.size + 1 + 1) 22 (.slice none 0 0) ∧
    Boxed (wsB w a b t nq) (w.heap.size + 1 + 1 + 1) 3 (.int .i64 0) ∧ (wsB w a b t nq).cell? ⟨w.heap.size + 1 + 1 + 1 + 1, 0, none⟩ = some (.pointer (some ⟨t, 0, none⟩)) ∧ (wsB w a b t nq).heap.size = w.heap.size + 5 ∧ Below w.heap.size w (wsB w a b t nq) := by
  have s1 : (w.alloc (.cells #[.int .i64 a] 3)).heap.size = w.heap.size + 1 := by simp
  have s2 : ((w.alloc (.cells #[.int .i64 a] 3)).alloc (.cells #[.int .i64 b] 3)).heap.size = w.heap.size + 1 + 1 := by simp
  have s3 : ((((w.alloc (.cells #[.int .i64 a] 3)).alloc (.cells #[.int .i64 b] 3)).drewN nq).alloc (.cells #[.slice none 0 0] 22)).heap.size = w.heap.size + 1 + 1 + 1 := by
    rw [World.size_alloc]; show World.heap _ |>.size |> (· + 1) |> (· = _); simp
  have s4 : (((((w.alloc (.cells #[.int .i64 a] 3)).alloc (.cells #[.int .i64 b] 3)).drewN nq).alloc (.cells #[.slice none 0 0] 22)).alloc (.cells #[.int .i64 0] 3)).heap.size = w.heap.size + 1 + 1 + 1 + 1 := by
    rw [World.size_alloc, s3]
  have b1 := Boxed.new w 3 (.int .i64 a)
  have b2 := Boxed.new (w.alloc (.cells #[.int .i64 a] 3)) 3 (.int .i64 b)
  rw [s1] at b2
  have b1' : Boxed (((w.alloc (.cells #[.int .i64 a] 3)).alloc (.cells #[.int .i64 b] 3)).drewN nq) w.heap.size 3 (.int .i64 a) := b1.alloc _
  have b2' : Boxed (((w.alloc (.cells #[.int .i64 a] 3)).alloc (.cells #[.int .i64 b] 3)).drewN nq) (w.heap.size + 1) 3 (.int .i64 b) := b2
  have b3 := Boxed.new (((w.alloc (.cells #[.int .i64 a] 3)).alloc (.cells #[.int .i64 b] 3)).drewN nq) 22 (.slice none 0 0)
  rw [show (((w.alloc (.cells #[.int .i64 a] 3)).alloc (.cells #[.int .i64 b] 3)).drewN nq).heap.size = w.heap.size + 1 + 1 from s2] at b3
  have b4 := Boxed.new ((((w.alloc (.cells #[.int .i64 a] 3)).alloc (.cells #[.int .i64 b] 3)).drewN nq).alloc (.cells #[.slice none 0 0] 22)) 3 (.int .i64 0)
  rw [s3] at b4
  have b5 := Boxed.new (((((w.alloc (.cells #[.int .i64 a] 3)).alloc (.cells #[.int .i64 b] 3)).drewN nq).alloc (.cells #[.slice none 0 0] 22)).alloc (.cells #[.int .i64 0] 3)) 25 (.pointer (some ⟨t, 0, none⟩))
  rw [s4] at b5
  refine ⟨((b1'.alloc _).alloc _).alloc _, ((b2'.alloc _).alloc _).alloc _, (b3.alloc _).alloc _, b4.alloc _, b5.cell, ?_, ?_⟩
  · show (World.alloc _ _).heap.size = _
    rw [World.size_alloc, s4]
  · have hk : Kp w (wsB w a b t nq) nob := (((((((Kp.refl w nob).alloc _).alloc _).drewN nq).alloc _).alloc _).alloc _)
    exact hk.below (Nat.le_refl _) (fun _ e => e.elim)
attribute [local go_sem] Oper.semAt_some
theorem infoEB : (Try.prog.info? 5).map (fun i => (i.zero, i.size, i.bytes)) = some (some (.int .u8 0), 1, 1) := by kernel_rfl
set_option maxRecDepth 100000 in
set_option maxHeartbeats 2000000 in
theorem slice_goodB (w : World) (base t : Nat) (v : Value) (L : List (List Int)) (a b : Nat) (h : Tab w base 61 22 5 t v (L.map (List.map (Value.int .u8)))) (hL : lens L ≤ 1000000) (hab : a ≤ b) (hb : b ≤ lens L) :
    Calls Try.prog 15 #[.pointer (some ⟨t, 0, none⟩), .int .i64 a, .int .i64 b] w (rowOfB w ((L.flatten.take b).drop a)) := by
  have hk2 : Kp w ((w.alloc (.cells #[.int .i64 a] 3)).alloc (.cells #[.int .i64 b] 3)) nob := ((Kp.refl w nob).alloc _).alloc _
  have hT2 : Tab ((w.alloc (.cells #[.int .i64 a] 3)).alloc (.cells #[.int .i64 b] 3)) base 61 22 5 t v (L.map (List.map (Value.int .u8))) := h.kp hk2 id (fun _ _ e => e) (fun _ _ _ _ e => e)
  have hc0 := hT2.cell0
  have hlen := fun nq => len_tabB (((w.alloc (.cells #[.int .i64 a] 3)).alloc (.cells #[.int .i64 b] 3)).drewN nq) base t v _ (hT2.kp ((Kp.refl _ nob).drewN nq) id (fun _ _ e => e) (fun _ _ _ _ e => e)) (by rw [lens_map]; exact hL)
  rw [lens_map] at hlen
  have HN := Lib.hid hlen
  have htw : t < w.heap.size := block_lt_of_cell h.cell0
  have h0 : ¬ ((a : Int) < 0) := by omega
  have hd : decide ((a : Int) < 0) = false := by simp
  have hd2 : decide (b < a) = false := by simp; omega
  have hd3 : decide (lens L < b) = false := by simp; omega
  have H := Lib.hid h
  clear hlen h hT2
  obtain ⟨i0, hi, hz0, hz1, hz2⟩ := info_parts infoEB
  refine (callsIn_wide (n := 6)).1 ?_
  refine callsIn_of_wp_marks Try.func15 rfl trivial ?_ rfl
  simp only [Try.ntmps15, List.size_toArray, List.length_cons, List.length_nil, Nat.reduceAdd, Nat.reduceSub, Array.replicate_succ, Array.replicate_zero, List.push_toArray, List.append_toArray, List.nil_append, List.cons_append]
  refine wpIn_wide.2 ?_
  go_wp2_with (go_at_call 30; refine (none_ptrB _ _ _ hc0).mono ?_; rintro e w' ⟨rfl, rfl⟩)
  go_quiet ((go_at_call 17; exact Calls.quiet_of_same ((HN.out _).mono fun e w' ⟨he, hw⟩ => ⟨he, hw.symm⟩)))
  go_wp2_with (go_at_call 28; refine (all_okB _ _).mono ?_; rintro e w' ⟨rfl, rfl⟩)
  obtain ⟨f1, f2, f3, f4, f5, f6, f7⟩ := ws_factsB w a b t nq
  change Code.wp Try.prog _ _ _ (wsB w a b t nq)
  generalize wsB w a b t nq = ws at *
  obtain ⟨N, hN⟩ : ∃ N, N = w.heap.size := ⟨_, rfl⟩
  rw [← hN] at f1 f2 f3 f4 f5 f6 f7
  simp only [← hN]
  have hstop := all_stopsB 5 (by omega) w ws base t (N + 1 + 1 + 1 + 1) v L H.out hL (by rw [← hN]; exact f7) f5
  rw [← hN] at hstop
  have hIW : OwnFrom ws.heap.size (fun (s : List Int) W => (Boxed W N 3 (.int .i64 a) ∧ Boxed W (N + 1) 3 (.int .i64 b)) ∧ (∃ v, Boxed W (N + 1 + 1) 22 v ∧ W.ownsRow (N + 4) 5 1 v (s.drop a).length ((s.drop a).map (Value.int .u8)) ∧ True) ∧ Below N w W) :=
    OwnFrom.and (OwnFrom.and (Own.from (boxed_own N 3 (fun _ => .int .i64 a)) _) (Own.from (boxed_own (N + 1) 3 (fun _ => .int .i64 b)) _)) (OwnFrom.and (Own.from (holdsRow_own (N + 4) (N + 1 + 1) 22 5 1 (fun s : List Int => (s.drop a).length) (fun s => (s.drop a).map (Value.int .u8)) (fun _ _ => True)) _) (ownFrom_below (by omega) (by omega)))
  have HNe := Lib.hid hN
  have hwN : N ≤ w.heap.size := by omega
  have hNw : N ≤ ws.heap.size := by omega
  clear hN
  refine (wpIn_wide (n := 6)).1 ?_
  refine wpIn_rangeFunc_ownG rfl (by omega) (gf := 40) (lb := #[.pointer (some ⟨N + 1 + 1 + 1 + 1, 0, none⟩)]) rfl trivial (enters_of Try.func40 (by kernel_rfl) rfl)
    hstop belowK_t (belowK_b (by omega)) (Below.refl _ _) (fun _ => rfl)
    (fun s W => Boxed W (N + 1 + 1 + 1) 3 (.int .i64 s.length) ∧ ((Boxed W N 3 (.int .i64 a) ∧ Boxed W (N + 1) 3 (.int .i64 b)) ∧ (∃ v, Boxed W (N + 1 + 1) 22 v ∧ W.ownsRow (N + 4) 5 1 v (s.drop a).length ((s.drop a).map (Value.int .u8)) ∧ True) ∧ Below N w W) ∧ s.length ≤ b)
    (fun c s W => ((Boxed W N 3 (.int .i64 a) ∧ Boxed W (N + 1) 3 (.int .i64 b)) ∧ (∃ v, Boxed W (N + 1 + 1) 22 v ∧ W.ownsRow (N + 4) 5 1 v (s.dropLast.drop a).length ((s.dropLast.drop a).map (Value.int .u8)) ∧ True) ∧ Below N w W) ∧ (c = .exit 1 ∧ s.dropLast.length = b))
    (OwnFrom.and (Own.from (boxed_own (N + 1 + 1 + 1) 3 (fun s : List Int => .int .i64 s.length)) _) (OwnFrom.and hIW (ownFrom_pure _ (fun s : List Int => s.length ≤ b))))
    (fun c => OwnFrom.and (fun s X Y row hs hg hr => hIW s.dropLast X Y row hs hg hr) (ownFrom_pure _ (fun s : List Int => c = .exit 1 ∧ s.dropLast.length = b)))
    ⟨f4, ⟨⟨f1, f2⟩, ⟨_, f3, by simpa using World.ownsRow_nil ws (N + 4) 5 1, trivial⟩, f7⟩, by simp⟩
    (fun x => { tmps := #[.pointer (some ⟨t, 0, none⟩), .int .i64 a, .int .i64 b, undef, .pointer (some ⟨N, 0, none⟩), .pointer (some ⟨N + 1, 0, none⟩), .slice none 0 0, .int .i64 0, .pointer (some ⟨N + 1 + 1, 0, none⟩), .pointer (some ⟨N + 1 + 1 + 1, 0, none⟩), .int .u8 x, .bool false, .pointer (some ⟨t, 0, none⟩), .bool false, .bool false, .int .i64 a, .bool false, .bool false, .int .i64 b, .int .i64 a, .bool false, .bool false, .bool false, .int .i64 b, .pointer (some ⟨t, 0, none⟩), .int .i64 (lens L), .bool false, .bool false, .pointer (some ⟨t, 0, none⟩), .func (.func 40) #[] #[.pointer (some ⟨N + 1 + 1 + 1 + 1, 0, none⟩)], .int .u8 x, undef, undef, undef, undef, undef, undef, undef, undef, undef, undef, undef, undef, undef], defers := [] }) ?assign ?body ?done ?stop
  case assign =>
    intro l x W K hK
    gi_wp2
    exact hK
  case body =>
    rintro l pre x W ⟨g4, ⟨⟨g1, g2⟩, ⟨u, g3, grow, _⟩, gB⟩, hle⟩ hlt
    obtain ⟨A1, d1, rfl, _, _⟩ := own_slice grow
    have c1 := g1.cell
    have c2 := g2.cell
    have c3 := g3.cell
    have c4 := g4.cell
    have k4 := g4.frozen
    have hbl : b ≤ 1000000 := by omega
    have hWs := g4.lt
    clear hstop
    by_cases hbk : pre.length < b
    · have hd4 : decide (b ≤ pre.length) = false := by simp; omega
      by_cases hak : a ≤ pre.length
      · have hd5 : decide (a ≤ pre.length) = true := by simp; omega
        have hdr : (pre ++ [x]).drop a = pre.drop a ++ [x] := by rw [List.drop_append_of_le_length hak]
        have hpl : (pre.drop a).length ≤ 1000000 := by rw [List.length_drop]; omega
        obtain ⟨ys, hys⟩ : ∃ ys, ys = pre.drop a := ⟨_, rfl⟩
        rw [← hys] at hdr hpl c3 g3 grow
        have HDR := Lib.hid hdr
        clear hys
        have G1 := Lib.hid g1
        have G2 := Lib.hid g2
        have G3 := Lib.hid g3
        have G4 := Lib.hid g4
        have GR := Lib.hid grow
        clear hdr g1 g2 g3 g4 grow
        gi_wp2_with (gi_at_builtin; go_loud (refine wpListIn_append_own _ rfl _ _ 22 rfl (N + 4) 5 i0 (.int .u8 0) 1 1 Try.underlying22 hi hz0 hz1 hz2 rfl (by decide) _ _ _ rfl (GR.out.alloc _) ⟨W.heap.size, 0, none⟩ 1 1 [.int .u8 x] rfl rfl (cell_one_new _ _ _) (by simp [Value.oneCell']) (by unfold maxLen; omega) (by omega) (by simp; omega) ?_); intro v' w1 hown' hgrow _; obtain ⟨g', cap', rfl⟩ := ownsRow_succ hown'; obtain ⟨hbx, hko, hbl1⟩ := box_append GR.out hgrow; have e3 := (hbx _ _ _ (by omega) G3.out).cell; have e3f := (hbx _ _ _ (by omega) G3.out).frozen; have e4 := (hbx _ _ _ (by omega) G4.out).cell; have e4f := (hbx _ _ _ (by omega) G4.out).frozen; have HB := Lib.hid hbx; have HO := Lib.hid hown'; clear hbx hown' hgrow)
        refine ⟨((hko.trans (KeepsOthers.setCell _ _ _)).trans (KeepsOthers.setCell _ _ _)).from _, ((hbl1 N (by omega) (by omega)).setCell (by simp; omega) _).setCell (by simp; omega) _, ?_, ⟨⟨((HB.out _ _ _ (by omega) G1.out).other (by omega) _).other (by omega) _, ((HB.out _ _ _ (by omega) G2.out).other (by omega) _).other (by omega) _⟩, ⟨_, ((HB.out _ _ _ (by omega) G3.out).set _).other (by omega) _, ?_, trivial⟩, ((gB.trans (hbl1 N (by omega) (by omega))).setCell (by simp; omega) _).setCell (by simp; omega) _⟩, by simp; omega⟩
        · have := ((HB.out _ _ _ (by omega) G4.out).other (B' := N + 1 + 1) (by omega) (.slice (some ⟨g', 0, none⟩) (ys.length + 1) cap')).set (.int .i64 ((pre.length : Int) + 1))
          simpa using this
        · rw [HDR.out]
          simpa using own_box (own_box HO.out (by omega)) (by omega)
      · have hd5 : decide (a ≤ pre.length) = false := by simp; omega
        gi_wp2_with fail
        have hdr : (pre ++ [x]).drop a = pre.drop a := by rw [List.drop_of_length_le (by simp; omega), List.drop_of_length_le (by omega)]
        refine ⟨(KeepsOthers.setCell _ _ _).from _, (Below.refl N W).setCell (by simp; omega) _, ?_, ⟨⟨g1.other (by omega) _, g2.other (by omega) _⟩, ⟨_, g3.other (by omega) _, ?_, trivial⟩, gB.setCell (by simp; omega) _⟩, by simp; omega⟩
        · have := g4.set (.int .i64 ((pre.length : Int) + 1))
          simpa using this
        · rw [hdr]; exact own_box grow (by omega)
    · have hd4 : decide (b ≤ pre.length) = true := by simp; omega
      gi_wp2_with fail
      refine ⟨KeepsFrom.refl _ _, ⟨⟨g1, g2⟩, ⟨_, g3, ?_, trivial⟩, gB⟩, rfl, ?_⟩
      · rw [List.dropLast_concat]; exact grow
      · rw [List.dropLast_concat]; omega
  case done =>
    rintro D ys W hD rfl ⟨g4, ⟨⟨g1, g2⟩, ⟨u, g3, grow, _⟩, gB⟩, hle⟩ hK
    obtain ⟨A1, d1, rfl, _, _⟩ := own_slice grow
    have c3 := g3.cell
    have hfl : (L.flatten.take b).drop a = L.flatten.drop a := by rw [List.take_of_length_le hle]
    rw [← hfl] at g3 grow c3
    obtain ⟨R, hR⟩ : ∃ R, R = (L.flatten.take b).drop a := ⟨_, rfl⟩
    rw [← hR] at g3 grow c3
    have GR := Lib.hid grow
    have HR := Lib.hid hR
    clear grow hfl g3 hR
    have hfin : rowOfB w R (.returned (.tuple #[.slice A1 R.length d1, .int .i64 0])) (W.putObj D (.deferred none)) := by
      refine ⟨_, rfl, ?_, ?_⟩
      · exact own_base_le (ownsRow_putObj GR.out _ hK rfl) (by have := HNe.out; omega)
      · have hb2 := gB.trans (belowK_b (w := ws) hNw W D (.deferred (some [])) (.deferred none) hD hK rfl rfl)
        rw [HNe.out] at hb2
        exact (Below.kp hb2).mono (fun k hk e => by omega)
    have HF := Lib.hid hfin
    clear hfin
    go_wp2
    refine ⟨by simp, .inl ⟨_, _, rfl, run_takeDeferred hK, ?_⟩⟩
    exact ⟨_, by simp [results, Try.results15, go_sem]; rfl, by rw [← HR.out]; exact HF.out⟩
  case stop =>
    rintro D c pre W hD hpre ⟨⟨⟨g1, g2⟩, ⟨u, g3, grow, _⟩, gB⟩, rfl, hle⟩ hK
    obtain ⟨A1, d1, rfl, _, _⟩ := own_slice grow
    have c3 := g3.cell
    have hfl : pre.dropLast = L.flatten.take b := by
      obtain ⟨r, hr⟩ := hpre
      rw [← hr, List.take_append_of_le_length (by rw [List.length_dropLast] at hle; omega), ← hle, List.dropLast_eq_take, List.length_take]
      congr 1
      omega
    rw [hfl] at g3 grow c3
    obtain ⟨R, hR⟩ : ∃ R, R = (L.flatten.take b).drop a := ⟨_, rfl⟩
    rw [← hR] at g3 grow c3
    have GR := Lib.hid grow
    have HR := Lib.hid hR
    clear grow hfl g3 hR
    have hfin : rowOfB w R (.returned (.tuple #[.slice A1 R.length d1, .int .i64 0])) (W.putObj D (.deferred none)) := by
      refine ⟨_, rfl, ?_, ?_⟩
      · exact own_base_le (ownsRow_putObj GR.out _ hK rfl) (by have := HNe.out; omega)
      · have hb2 := gB.trans (belowK_b (w := ws) hNw W D (.deferred (some [])) (.deferred none) hD hK rfl rfl)
        rw [HNe.out] at hb2
        exact (Below.kp hb2).mono (fun k hk e => by omega)
    have HF := Lib.hid hfin
    clear hfin
    gi_wp2
    go_wp2
    refine ⟨by simp, .inl ⟨_, _, rfl, run_takeDeferred hK, ?_⟩⟩
    exact ⟨_, by simp [results, Try.results15, go_sem]; rfl, by rw [← HR.out]; exact HF.out⟩
end Go.Proofs.Ytciandflgmmjaaa
