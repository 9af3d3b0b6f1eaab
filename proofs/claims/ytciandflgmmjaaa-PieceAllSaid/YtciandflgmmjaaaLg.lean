/- PieceAll: All tells all elements, in order, and stops where it is told to. -/
import Derived.Test.YtciandflgmmjaaaBr
import Derived.Deep.DeepFit
import Derived.Deep.CutBlock
namespace Go.Proofs.Ytciandflgmmjaaa
set_option linter.unusedVariables false
set_option linter.unusedSimpArgs false
open Go.RowKit Go.Shelf
attribute [local go_sem] Oper.semAt_some
theorem eql_fnI (w : World) (b : Nat) : (binOp .eql 48 (.func (.func 39) #[] #[.pointer (some ⟨b, 0, none⟩)]) .nilFunc).run Try.prog w = .ok (.bool false) w := by kernel_rfl
theorem wp_nopanic {c : Code} {a : Act} {w : World} {K : Act → World → Prop} {Q : Exit → Act → World → Prop} (h : Code.wp Try.prog c (Exit.then K (fun _ _ _ => False)) a w) : Code.wp Try.prog c (Exit.then K Q) a w :=
  Code.wp_mono (fun e a w h => by
    cases e
    case normal => exact h
    all_goals exact h.elim) h
/-- What an append onto a row of the call's own gives, whatever has been laid beside it since. -/
def AppTo (w3 W1 : World) (n : Nat) (Z : List Int) (v : Value) (w' : World) : Prop :=
  ∃ A c, v = .slice A n c ∧ n ≤ c ∧ c ≤ 9223372036854775807 ∧ w'.ownsRow w3.heap.size 3 1 v n (Z.map (Value.int .i64)) ∧ Kp w3 w' nob ∧ ∀ B x, Boxed W1 B 41 x → Boxed w' B 41 x
theorem app_any (w3 W0 W1 : World) (hk3 : Kp w3 W0 nob) (hk : Kp W0 W1 nob) (u : Value) (n : Nat) (X : List Int) (hn : X.length = n) (ho : W0.ownsRow w3.heap.size 3 1 u n (X.map (Value.int .i64))) (a : Value) (Y : List Int) (ha : Rd W1 a (Y.map (Value.int .i64))) (n' : Nat) (hn' : n + Y.length = n') (hsz : n' ≤ 1000000) :
    ∃ v w', (Builtin.append_ #[41, 41] 41 #[u, a]).run Try.prog W1 = .ok v w' ∧ AppTo w3 W1 n' (X ++ Y) v w' := by
  have h1 : ∀ (xs : List Int), ∀ u ∈ xs.map (Value.int .i64), u.oneCell' = true := one_intsI
  have hs := hk3.size
  have hs1 := hk.size
  subst hn
  subst hn'
  have ho1 := own_kp ho hk (fun _ _ e => e)
  obtain ⟨v1, w7, r1, o1, g1, b1⟩ := run_append_rd (P := Try.prog) W1 w3.heap.size 41 41 3 (.int .i64 0) 8 Try.underlying41 infoI rfl u (X.map (Value.int .i64)) (by simpa using ho1) a (Y.map (Value.int .i64)) ha (h1 Y) (by simp; omega) (by simp; omega) (by omega)
  have o1' : w7.ownsRow w3.heap.size 3 1 v1 (X.length + Y.length) ((X ++ Y).map (Value.int .i64)) := by simpa using o1
  obtain ⟨A, c, rfl, hc1, hc2⟩ := own_slice o1'
  refine ⟨_, w7, r1, A, c, rfl, hc1, hc2, o1', (hk3.trans hk (fun _ _ e => e)).trans (Kp.of_grown g1) (fun k hlt e => by have := (own_ty ho1 k e).1; omega), fun B x hb => ?_⟩
  refine (Kp.of_grown g1).heap hb (fun e => ?_)
  obtain ⟨_, cur, hc⟩ := own_ty ho1 B e
  exact ty_ne hb hc (by decide) rfl
theorem step_app (w3 : World) (n : Nat) (Z : List Int) {ops : Array Oper} {o : Oper} {a : Act} {K : Act → World → Prop} {Q : Exit → Act → World → Prop} {E : Prop} {w : World}
    (hg : o.guard = none) (d s : Operand) (t t' : TypeId) (ho : o.op = .call { callee := .builtin .append, args := #[d, s], argTypes := #[t, t'] })
    (hr : ∃ v' w', (Builtin.append_ #[t, t'] o.type #[a.eval d, a.eval s]).run Try.prog w = .ok v' w' ∧ AppTo w3 w n Z v' w') (hK : ∀ v' w', AppTo w3 w n Z v' w' → K (a.put o.dst v') w') : if Region.wanted o (yielded ops a.tmps) = true then Oper.wp Try.prog o a w K Q else E := by
  obtain ⟨v', w', h1, h2⟩ := hr
  exact step_append_run w hg d s t t' ho _ _ rfl rfl h1 (hK v' w' h2)
theorem boxed_kp {W W' : World} {B : Nat} {t : TypeId} {v : Value} (h : Boxed W B t v) (hk : Kp W W' nob) : Boxed W' B t v := hk.heap h id
theorem boxed_new2 (W : World) (b : Nat) (t : TypeId) (v : Value) (hb : W.heap.size = b) : Boxed (W.alloc (.cells #[v] t)) b t v := by
  subst hb
  exact Boxed.new W t v
theorem keep_set {W : World} {B b o : Nat} {u v : Value} (h : W.cell? ⟨b, o, none⟩ = some v) (hne : b ≠ B) : (W.setCell ⟨B, 0, none⟩ u).cell? ⟨b, o, none⟩ = some v :=
  (World.cell?_of_block (heap_setCell_other W ⟨B, 0, none⟩ b u hne)).trans h
/-- The cut behind the row of want. -/
def WantAt (wa w3 : World) (t : Nat) (M : List (List Int)) (zs : List Int) (B : Nat) (A : Option Addr) (c : Nat) (wx : World) : Prop :=
  w3.heap.size ≤ B ∧ Boxed wx B 41 (.slice A zs.length c) ∧ wx.ownsRow wa.heap.size 3 1 (.slice A zs.length c) zs.length (zs.map (Value.int .i64)) ∧ StI wa wx t M
theorem want_new (wa w3 w8 : World) (t : Nat) (M : List (List Int)) (zs : List Int) (A : Option Addr) (c : Nat) (hT : StI wa w3 t M) (ho : w8.ownsRow w3.heap.size 3 1 (.slice A zs.length c) zs.length (zs.map (Value.int .i64))) (hk : Kp w3 w8 nob) :
    WantAt wa w3 t M zs w8.heap.size A c (w8.alloc (.cells #[.slice A zs.length c] 41)) :=
  ⟨hk.size, Boxed.new _ _ _, own_base_le (own_kp ho ((Kp.refl w8 nob).alloc _) (fun _ _ e => e)) hT.kp.size, hT.step (hk.alloc _)⟩
theorem want_set (wa w3 w8 : World) (t : Nat) (M : List (List Int)) (zs : List Int) (A : Option Addr) (c B : Nat) (x : Value) (hT : StI wa w3 t M) (ho : w8.ownsRow w3.heap.size 3 1 (.slice A zs.length c) zs.length (zs.map (Value.int .i64))) (hk : Kp w3 w8 nob)
    (hB : w3.heap.size ≤ B) (hx : Boxed w8 B 41 x) : WantAt wa w3 t M zs B A c (w8.setCell ⟨B, 0, none⟩ (.slice A zs.length c)) := by
  have hk2 : Kp w8 (w8.setCell ⟨B, 0, none⟩ (.slice A zs.length c)) (fun k => k = B) := (Kp.refl _ _).setCell _ _ (fun _ => rfl)
  refine ⟨hB, hx.set _, own_base_le (own_kp ho hk2 (fun b e e' => ?_)) hT.kp.size, hT.step (hk.setCell ⟨B, 0, none⟩ _ (fun hlt => by simp at hlt; omega))⟩
  subst e'
  obtain ⟨_, cur, hc⟩ := own_ty ho _ e
  exact ty_ne hx hc (by decide) rfl
theorem fresh_rd3 (w : World) (b : Nat) (x y : Value) (e : TypeId) (fr : Nat × Nat) (hb : w.heap.size = b) : Rd (w.alloc (.cells #[x, y] e fr)) (.slice (some ⟨b, 0, none⟩) 2 2) [x, y] := by
  subst hb
  exact fresh_rd w #[x, y] e fr 2 2 rfl (Nat.le_refl _) (by omega)
theorem rd_nob {w w' : World} {v : Value} {xs : List Value} (h : Rd w v xs) (hk : Kp w w' nob) : Rd w' v xs := h.kp hk (fun _ _ e => e)
set_option maxRecDepth 100000 in
set_option maxHeartbeats 8000000 in
theorem alls_ok (w : World) (A : Option Addr) (c : Nat) (fs : List Int) (hf : Rd w (.slice A fs.length c) (fs.map (Value.int .i64))) (_ : ∀ z ∈ fs, (Lit.int .i64 z).wf = true)
    (d0 d1 d2 : Int) (h00 : -9223372036854775808 ≤ d0) (h01 : d0 ≤ 9223372036854775807) (h10 : -9223372036854775808 ≤ d1) (h11 : d1 ≤ 9223372036854775807) (h20 : -9223372036854775808 ≤ d2) (h21 : d2 ≤ 9223372036854775807)
    (st : Int) (hs0 : -9223372036854775808 ≤ st) (hs1 : st ≤ 9223372036854775807) :
    Calls Try.prog 7 #[.slice A fs.length c, .agg #[.int .i64 d0, .int .i64 d1, .int .i64 d2], .int .i64 st] w (yes w) := by
  have hfc : fs.length ≤ c ∧ c ≤ 9223372036854775807 := by
    obtain ⟨_, h1, h2, _⟩ := hf.at_
    exact ⟨h1, by simpa [maxLen] using h2⟩
  obtain ⟨hfc1, hfc2⟩ := hfc
  obtain ⟨gs, hgs⟩ : ∃ gs, gs = fs.take 300 := ⟨_, rfl⟩
  obtain ⟨m, hm⟩ : ∃ m, m = gs.length := ⟨_, rfl⟩
  have hml : m = min fs.length 300 := by rw [hm, hgs, List.length_take]; omega
  have hm1 : m ≤ 300 := by omega
  have hm2 : m ≤ fs.length := by omega
  have hmc : m ≤ c := by omega
  have hg : Rd w (.slice A m c) (gs.map (Value.int .i64)) := by
    have := hf.take_ (i := m) (c' := c) hm2 (by omega) (Nat.le_refl _)
    rwa [← List.map_take, show fs.take m = gs from by
      rw [hgs]
      rcases Nat.le_total fs.length 300 with h | h
      · rw [List.take_of_length_le (by omega), List.take_of_length_le h]
      · rw [hml, Nat.min_eq_right h]] at this
  have HG := Lib.hid hg
  have HM := Lib.hid hm
  have hcase : (m = fs.length ∧ fs.length ≤ 300) ∨ (m = 300 ∧ 300 < fs.length) := by omega
  clear hg hf hgs hm hml
  obtain ⟨wa, hwa⟩ : ∃ wa, wa = ((w.alloc (.cells #[.int .i64 d0, .int .i64 d1, .int .i64 d2] 30)).alloc (.cells #[.int .i64 st] 3)).alloc (.cells #[.bool false] 4) := ⟨_, rfl⟩
  have hka : Kp w wa nob := by rw [hwa]; exact (((Kp.refl w nob).alloc _).alloc _).alloc _
  have hsa : wa.heap.size = w.heap.size + 1 + 1 + 1 := by rw [hwa]; simp
  have x0 : wa.cell? ⟨w.heap.size, 0, none⟩ = some (.int .i64 d0) := by rw [hwa]; simp [go_sem]
  have x1 : wa.cell? ⟨w.heap.size, 1, none⟩ = some (.int .i64 d1) := by rw [hwa]; simp [go_sem]
  have x2 : wa.cell? ⟨w.heap.size, 2, none⟩ = some (.int .i64 d2) := by rw [hwa]; simp [go_sem]
  have HX : Hid (wa.cell? ⟨w.heap.size, 0, none⟩ = some (.int .i64 d0) ∧ wa.cell? ⟨w.heap.size, 1, none⟩ = some (.int .i64 d1) ∧ wa.cell? ⟨w.heap.size, 2, none⟩ = some (.int .i64 d2)) := ⟨x0, x1, x2⟩
  have HBX : Hid (Boxed wa (w.heap.size + 1) 3 (.int .i64 st) ∧ Boxed wa (w.heap.size + 1 + 1) 4 (.bool false)) := by
    have b1 := Boxed.new (w.alloc (.cells #[.int .i64 d0, .int .i64 d1, .int .i64 d2] 30)) 3 (.int .i64 st)
    have b2 := Boxed.new ((w.alloc (.cells #[.int .i64 d0, .int .i64 d1, .int .i64 d2] 30)).alloc (.cells #[.int .i64 st] 3)) 4 (.bool false)
    rw [World.size_alloc] at b1
    rw [World.size_alloc, World.size_alloc] at b2
    rw [hwa]
    exact ⟨b1.alloc _, b2⟩
  have HSA := Lib.hid hsa
  have HKA := Lib.hid hka
  clear hsa hka x0 x1 x2
  refine (callsIn_wide (n := 6)).1 ?_
  refine callsIn_of_wp_marks Try.func7 rfl trivial ?_ rfl
  simp only [Try.ntmps7, List.size_toArray, List.length_cons, List.length_nil, Nat.reduceAdd, Nat.reduceSub, Array.replicate_succ, Array.replicate_zero, List.push_toArray, List.append_toArray, List.nil_append, List.cons_append]
  refine wpIn_wide.2 ?_
  go_upto_region 1 with fail
  rw [← hwa]
  clear hwa
  go_wp2_with fail
  go_fit (works_ok wa)
  rintro e w1 ⟨rfl, hk1⟩
  go_upto_region 3 with fail
  go_cut [0] from 17 to 21 (fun s0 wx => s0 = .slice A m c ∧ wx = w1)
  case first =>
    rcases hcase with ⟨rfl, hc1⟩ | ⟨rfl, hc1⟩
    all_goals
      go_wp2_with fail
      go_meet
      exact ⟨rfl, rfl⟩
  case rest =>
  obtain ⟨rfl, rfl⟩ := hcut
  go_wp2_with fail
  go_fit (newI_ok wa wc _ gs hk1 (HG.out.kp (HKA.out.trans hk1 (fun _ _ e => e)) (fun _ _ e => e)) (by rw [← HM.out]; omega))
  rintro e w2 ⟨t, rfl, hT2, _⟩
  obtain ⟨L, hL⟩ : ∃ L, L = (if gs = [] then [] else [gs]) := ⟨_, rfl⟩
  have hfl : L.flatten = gs := by
    rw [hL]
    split
    · rename_i h; rw [h]; rfl
    · simp
  have hln : lens L = gs.length := by rw [← hfl]; rfl
  rw [← HM.out] at hln
  have hl1 : L.length ≤ 1 := by rw [hL]; split <;> simp
  rw [← hL] at hT2
  have HT2 := Lib.hid hT2
  have HLN := Lib.hid hln
  have HFL := Lib.hid hfl
  have y0 := hT2.kp.cell HX.out.1 id
  have y1 := hT2.kp.cell HX.out.2.1 id
  have y2 := hT2.kp.cell HX.out.2.2 id
  clear hT2 hk1 hL hfl hln
  obtain ⟨a, ha⟩ : ∃ a : Nat, (a : Int) = bring d0 (m + 1) := ⟨(bring d0 (m + 1)).toNat, by have := bring_range d0 (m + 1) (by omega); omega⟩
  have ham : a ≤ m := by have := bring_range d0 (m + 1) (by omega); omega
  obtain ⟨q, hq⟩ : ∃ q : Nat, (q : Int) = bring d1 (m - a + 1) := ⟨(bring d1 (m - a + 1)).toNat, by have := bring_range d1 ((m : Int) - a + 1) (by omega); omega⟩
  have hqm : a + q ≤ m := by have := bring_range d1 ((m : Int) - a + 1) (by omega); omega
  have hb1 := bring_ok d0 (m + 1) w2 h00 h01 (by omega)
  have hb2 := bring_ok d1 (m - a + 1) w2 h10 h11 (by omega)
  rw [← ha] at hb1
  rw [← hq] at hb2
  have HB1 := Lib.hid hb1
  have HB2 := Lib.hid hb2
  clear ha hq hb1 hb2
  go_wp2_with fail
  go_fit HB1.out
  rintro e w3 ⟨rfl, rfl⟩
  go_wp2_with fail
  go_fit HB2.out
  rintro e w3 ⟨rfl, rfl⟩
  have hrp := repI_new wa w2 t L HT2.out a (a + q) [d2, d0] (0, 0) (by rw [HLN.out]; omega) (by omega) (by omega) (by rw [HLN.out]; omega) (by simp)
  rw [Int.natCast_add] at hrp
  have HRP := Lib.hid hrp
  clear hrp
  go_wp2_with fail
  go_fit HRP.out
  rintro e w3 ⟨rfl, hT3⟩
  have hfu := HT2.out.full
  have hpl := repP_law L a (a + q) [d2, d0] (by omega) (by rw [HLN.out]; omega) hfu
  have hpn := lens_repP L a (a + q) [d2, d0] (by omega) (by rw [HLN.out]; omega) hfu
  obtain ⟨M, hM⟩ : ∃ M, M = repP L a (a + q) [d2, d0] := ⟨_, rfl⟩
  rw [← hM] at hT3 hpl hpn
  obtain ⟨zs, hzs⟩ : ∃ zs, zs = gs.take a ++ [d2, d0] ++ gs.drop (a + q) := ⟨_, rfl⟩
  have hfm : M.flatten = zs := by rw [hpl.1, HFL.out, hzs]
  have hzl : zs.length = m - q + 2 := by rw [hzs, List.length_append, List.length_append, List.length_take, List.length_drop, ← HM.out]; simp; omega
  have hzb : zs.length ≤ 302 := by omega
  have hlm : lens M = zs.length := by rw [← hfm]; rfl
  have hta : (gs.take a).length = a := by rw [List.length_take, ← HM.out]; omega
  have hdq : (gs.drop (a + q)).length = m - (a + q) := by rw [List.length_drop, ← HM.out]
  have hrd3 := HG.out.kp (HKA.out.trans hT3.kp (fun _ _ e => e)) (fun _ _ e => e)
  have hac : a ≤ c := by omega
  have hcopy : Rd w3 (.slice A a c) ((gs.take a).map (Value.int .i64)) := by
    have := hrd3.take_ (i := a) (c' := c) ham hac (Nat.le_refl _)
    rwa [← List.map_take] at this
  have htail := hrd3.drop_ (i := a + q) hqm
  rw [← List.map_drop] at htail
  obtain ⟨b, hb⟩ : ∃ b, b = a + q := ⟨_, rfl⟩
  rw [← hb] at htail
  have hbi : (a : Int) + (q : Int) = (b : Int) := by omega
  have hab : a ≤ b := by omega
  have hbm : b ≤ m := by omega
  have hbc : b ≤ c := by omega
  have hbmi : (b : Int) ≤ (m : Int) := by omega
  rw [hbi]
  rw [← hb] at hzs hdq
  clear hb hbi
  have z0 := hT3.kp.cell HX.out.1 id
  have z2 := hT3.kp.cell HX.out.2.2 id
  have HT3 := Lib.hid hT3
  have HZ := Lib.hid hzs
  have HFM := Lib.hid hfm
  have HLM := Lib.hid hlm
  have HTA := Lib.hid hta
  have HDQ := Lib.hid hdq
  have HC := Lib.hid hcopy
  have HTL := Lib.hid htail
  clear hT3 hzs hfm hlm hta hdq hcopy htail hrd3 hM hpl hpn hfu hzl y0 y1 y2 HB1 HB2 HRP
  go_upto_region 9 with fail
  go_cut [10] from 50 to 63 (fun s10 wx => ∃ B A c, s10 = .pointer (some ⟨B, 0, none⟩) ∧ zs.length ≤ c ∧ c ≤ 9223372036854775807 ∧ Hid (WantAt wa w3 t M zs B A c wx))
  case first =>
    obtain ⟨X, hX⟩ : ∃ X, X = gs.take a := ⟨_, rfl⟩
    obtain ⟨Z, hZ⟩ : ∃ Z, Z = gs.drop b := ⟨_, rfl⟩
    obtain ⟨Y, hY⟩ : ∃ Y : List Int, Y = [d2, d0] := ⟨_, rfl⟩
    have hXl : X.length = a := by rw [hX]; exact HTA.out
    have hYl : Y.length = 2 := by rw [hY]; rfl
    have hall : X ++ Y ++ Z = zs := by rw [hX, hY, hZ]; exact HZ.out.symm
    have hZl : a + 2 + Z.length = zs.length := by rw [← hall, List.length_append, List.length_append, hXl, hYl]
    have hcall : ∀ W, Kp w3 W nob → Calls Try.prog 23 #[.slice A a c] W fun e w' => ∃ A6 c6, e = .returned (.slice A6 a c6) ∧ w'.ownsRow w3.heap.size 3 1 (.slice A6 a c6) a (X.map (Value.int .i64)) ∧ Kp w3 w' nob ∧ Kp W w' nob := by
      intro W hk
      have hc := HC.out
      rw [← hX] at hc
      refine (copy_okI W _ _ (hc.kpl hk (fun _ _ e => e)) (one_intsI _) (by rw [List.length_map, hXl]; omega)).mono ?_
      rintro e w6 ⟨u6, rfl, ho6, hk6⟩
      rw [List.length_map, hXl] at ho6
      obtain ⟨A6, c6, rfl, _, _⟩ := own_slice ho6
      exact ⟨A6, c6, rfl, own_base_le ho6 hk.size, hk.trans hk6 (fun _ _ e => e), hk6⟩
    have happ1 : ∀ w6 A6 c6, w6.ownsRow w3.heap.size 3 1 (.slice A6 a c6) a (X.map (Value.int .i64)) → Kp w3 w6 nob → ∀ W1 A1 c1, Kp w6 W1 nob → Rd W1 (.slice A1 2 c1) [.int .i64 d2, .int .i64 d0] →
        ∃ v w', (Builtin.append_ #[41, 41] 41 #[.slice A6 a c6, .slice A1 2 c1]).run Try.prog W1 = .ok v w' ∧ AppTo w3 W1 (a + 2) (X ++ Y) v w' := by
      intro w6 A6 c6 ho6 hk36 W1 A1 c1 hk hr
      exact app_any w3 w6 W1 hk36 hk _ a X hXl ho6 _ Y (by rw [hY]; exact hr) (a + 2) (by rw [hYl]) (by omega)
    have happ2 : ∀ w7 A7 c7, w7.ownsRow w3.heap.size 3 1 (.slice A7 (a + 2) c7) (a + 2) ((X ++ Y).map (Value.int .i64)) → Kp w3 w7 nob → ∀ W2, Kp w7 W2 nob →
        ∃ v w', (Builtin.append_ #[41, 41] 41 #[.slice A7 (a + 2) c7, .slice (if c = b then A else A.map (·.add b)) (m - b) (c - b)]).run Try.prog W2 = .ok v w' ∧ AppTo w3 W2 zs.length zs v w' := by
      intro w7 A7 c7 ho7 hk37 W2 hk
      have ht := HTL.out
      rw [← hZ] at ht
      have := app_any w3 w7 W2 hk37 hk _ (a + 2) (X ++ Y) (by rw [List.length_append, hXl, hYl]) ho7 _ Z (ht.kpl (hk37.trans hk (fun _ _ e => e)) (fun _ _ e => e)) zs.length hZl (by omega)
      rwa [hall] at this
    have HAP1 := Lib.hid happ1
    have HAP2 := Lib.hid happ2
    have HCALL := Lib.hid hcall
    clear hcall happ1 happ2 hall hX hY hXl hYl hZl hZ
    have hw3 : w.heap.size < w3.heap.size := by have := HT3.out.kp.size; have := HSA.out; omega
    have n3 : w.heap.size ≠ w3.heap.size := by omega
    have n3' : w.heap.size ≠ w3.heap.size + 1 := by omega
    go_wp2_with fail
    go_region_held3 (fun W => W.cell? ⟨w.heap.size, 0, none⟩ = some (.int .i64 d0) ∧ W.cell? ⟨w.heap.size, 2, none⟩ = some (.int .i64 d2)) (first | go_keep | (refine ⟨keep_set ?_ ?_, keep_set ?_ ?_⟩ <;> assumption)) (first
      | (go_at_call 23; refine (HCALL.out _ ?_).mono ?_; (repeat (first | (with_reducible exact Kp.refl _ _) | (with_reducible refine Kp.alloc ?_ _) | (with_reducible refine Kp.drew ?_))); rintro e w6 ⟨A6, c6, rfl, ho6, hk36, hk6⟩; have z06 := hk36.cell z0 id; have z26 := hk36.cell z2 id; have s6 := hk36.size; have n6 : w.heap.size ≠ w6.heap.size := (Nat.ne_of_lt (Nat.lt_of_lt_of_le hw3 s6)); have n6' : w.heap.size ≠ w6.heap.size + 1 := (Nat.ne_of_lt (Nat.lt_succ_of_lt (Nat.lt_of_lt_of_le hw3 s6))); (try (refine (fun (q6a : Boxed w6 (w3.heap.size) 41 (.slice none 0 0)) => ?_) ?_; rotate_left 1; (focus (refine boxed_kp ?_ hk6; first | (refine boxed_new2 _ _ _ _ ?_; simp; done) | (refine Boxed.alloc ?_ _; refine boxed_new2 _ _ _ _ ?_; simp; done) | (refine boxed_new2 _ _ _ _ ?_; rfl; done) | (refine Boxed.alloc ?_ _; refine boxed_new2 _ _ _ _ ?_; rfl; done))); have q6ac := q6a.cell; have q6af := q6a.frozen)); (try (refine (fun (q6b : Boxed w6 (w3.heap.size + 1) 41 (.slice none 0 0)) => ?_) ?_; rotate_left 1; (focus (refine boxed_kp ?_ hk6; first | (refine boxed_new2 _ _ _ _ ?_; simp; done) | (refine Boxed.alloc ?_ _; refine boxed_new2 _ _ _ _ ?_; simp; done) | (refine boxed_new2 _ _ _ _ ?_; rfl; done) | (refine Boxed.alloc ?_ _; refine boxed_new2 _ _ _ _ ?_; rfl; done))); have q6bc := q6b.cell; have q6bf := q6b.frozen)); dsimp only)
      | (refine step_app w3 zs.length zs ?_ (.tmp 59) (.tmp 62) 41 41 ?_ ?_ ?_; rfl; rfl; (refine HAP2.out w7 _ _ ho7 hk37 _ ?_); (repeat (first | (with_reducible exact Kp.refl _ _) | (with_reducible refine Kp.alloc ?_ _) | (with_reducible refine Kp.drew ?_))); rintro v8 w8 ⟨A8, c8, rfl, hc81, hc82, ho8, hk38, hB8⟩; have z08 := hk38.cell z0 id; have z28 := hk38.cell z2 id; (try (refine (fun (q8a : Boxed w8 (w3.heap.size) 41 (.slice none 0 0)) => ?_) ?_; rotate_left 1; (focus (refine hB8 _ _ ?_; first | (exact q7a; done) | (exact Boxed.alloc q7a _; done))); have q8ac := q8a.cell; have q8af := q8a.frozen)); (try (refine (fun (q8b : Boxed w8 (w3.heap.size + 1) 41 (.slice none 0 0)) => ?_) ?_; rotate_left 1; (focus (refine hB8 _ _ ?_; first | (exact q7b; done) | (exact Boxed.alloc q7b _; done))); have q8bc := q8b.cell; have q8bf := q8b.frozen)); (try (refine (fun (q8c : Boxed w8 (w6.heap.size) 41 (.slice none 0 0)) => ?_) ?_; rotate_left 1; (focus (refine hB8 _ _ ?_; first | (exact q7c; done) | (exact Boxed.alloc q7c _; done))); have q8cc := q8c.cell; have q8cf := q8c.frozen)); (try (refine (fun (q8d : Boxed w8 (w6.heap.size + 1) 41 (.slice none 0 0)) => ?_) ?_; rotate_left 1; (focus (refine hB8 _ _ ?_; first | (exact q7d; done) | (exact Boxed.alloc q7d _; done))); have q8dc := q8d.cell; have q8df := q8d.frozen)); (try (refine (fun (q8e : Boxed w8 (w7.heap.size) 41 (.slice none 0 0)) => ?_) ?_; rotate_left 1; (focus (refine hB8 _ _ ?_; first | (refine boxed_new2 _ _ _ _ ?_; simp; done) | (refine Boxed.alloc ?_ _; refine boxed_new2 _ _ _ _ ?_; simp; done) | (refine boxed_new2 _ _ _ _ ?_; rfl; done) | (refine Boxed.alloc ?_ _; refine boxed_new2 _ _ _ _ ?_; rfl; done))); have q8ec := q8e.cell; have q8ef := q8e.frozen)))
      | (refine step_app w3 (a + 2) (X ++ Y) ?_ (.tmp 53) (.tmp 58) 41 41 ?_ ?_ ?_; rfl; rfl; (refine HAP1.out w6 _ _ ho6 hk36 _ _ _ ?_ ?_); (repeat (first | (with_reducible exact Kp.refl _ _) | (with_reducible refine Kp.alloc ?_ _) | (with_reducible refine Kp.drew ?_))); (repeat (first | ((with_reducible refine fresh_rd3 _ _ _ _ _ _ ?_); (first | (with_reducible rfl) | (focus (simp; done)))) | (with_reducible refine Rd.alloc ?_ _) | (with_reducible refine Rd.drew ?_) | (with_reducible refine rd_nob ?_ hk6))); rintro v7 w7 ⟨A7, c7, rfl, _, _, ho7, hk37, hB7⟩; have z07 := hk37.cell z0 id; have z27 := hk37.cell z2 id; have s7 := hk37.size; have n7 : w.heap.size ≠ w7.heap.size := (Nat.ne_of_lt (Nat.lt_of_lt_of_le hw3 s7)); (try (refine (fun (q7a : Boxed w7 (w3.heap.size) 41 (.slice none 0 0)) => ?_) ?_; rotate_left 1; (focus (refine hB7 _ _ ?_; first | (exact q6a; done) | (exact Boxed.alloc q6a _; done))); have q7ac := q7a.cell; have q7af := q7a.frozen)); (try (refine (fun (q7b : Boxed w7 (w3.heap.size + 1) 41 (.slice none 0 0)) => ?_) ?_; rotate_left 1; (focus (refine hB7 _ _ ?_; first | (exact q6b; done) | (exact Boxed.alloc q6b _; done))); have q7bc := q7b.cell; have q7bf := q7b.frozen)); (try (refine (fun (q7c : Boxed w7 (w6.heap.size) 41 (.slice none 0 0)) => ?_) ?_; rotate_left 1; (focus (refine hB7 _ _ ?_; first | (refine boxed_new2 _ _ _ _ ?_; simp; done) | (refine Boxed.alloc ?_ _; refine boxed_new2 _ _ _ _ ?_; simp; done) | (refine boxed_new2 _ _ _ _ ?_; rfl; done) | (refine Boxed.alloc ?_ _; refine boxed_new2 _ _ _ _ ?_; rfl; done))); have q7cc := q7c.cell; have q7cf := q7c.frozen)); (try (refine (fun (q7d : Boxed w7 (w6.heap.size + 1) 41 (.slice none 0 0)) => ?_) ?_; rotate_left 1; (focus (refine hB7 _ _ ?_; first | (refine boxed_new2 _ _ _ _ ?_; simp; done) | (refine Boxed.alloc ?_ _; refine boxed_new2 _ _ _ _ ?_; simp; done) | (refine boxed_new2 _ _ _ _ ?_; rfl; done) | (refine Boxed.alloc ?_ _; refine boxed_new2 _ _ _ _ ?_; rfl; done))); have q7dc := q7d.cell; have q7df := q7d.frozen))))
    all_goals
      generalize hgen : (if c = b then A else Option.map (fun x => x.add b) A) = TV
      clear hgen
      go_wp2_with fail
      go_meet
      refine ⟨_, A8, c8, rfl, hc81, hc82, ?_⟩
      first
        | exact want_new wa w3 w8 t M zs A8 c8 HT3.out ho8 hk38
        | exact want_set wa w3 w8 t M zs A8 c8 _ _ HT3.out ho8 hk38 (Nat.le_refl _) q8a
        | exact want_set wa w3 w8 t M zs A8 c8 _ _ HT3.out ho8 hk38 (Nat.le_succ _) q8b
        | exact want_set wa w3 w8 t M zs A8 c8 _ _ HT3.out ho8 hk38 hk36.size q8c
        | exact want_set wa w3 w8 t M zs A8 c8 _ _ HT3.out ho8 hk38 (Nat.le_succ_of_le hk36.size) q8d
        | exact want_set wa w3 w8 t M zs A8 c8 _ _ HT3.out ho8 hk38 hk37.size q8e
  case rest =>
  obtain ⟨B, A8, c8, rfl, hc81, hc82, HW⟩ := hcut
  obtain ⟨bs, hbs⟩ : ∃ bs : Nat, (bs : Int) = bring st (zs.length + 1) := ⟨(bring st (zs.length + 1)).toNat, by have := bring_range st (zs.length + 1) (by omega); omega⟩
  have hbsz : bs ≤ zs.length := by have := bring_range st (zs.length + 1) (by omega); omega
  have hb3 := bring_ok st (zs.length + 1) wc hs0 hs1 (by omega)
  rw [← hbs] at hb3
  have HB3 := Lib.hid hb3
  have hsw : w3.heap.size = w3.heap.size := rfl
  obtain ⟨hB3, hBox, hown, hT⟩ := HW.out
  have hsB : w.heap.size + 3 ≤ B := by have := HT3.out.kp.size; have := HSA.out; omega
  have hkc : Kp wa wc nob := hT.kp
  have c5 := (boxed_kp HBX.out.1 hkc).cell
  have f5 := (boxed_kp HBX.out.1 hkc).frozen
  have c10 := hBox.cell
  have HHB := Lib.hid hBox
  have HHO := Lib.hid hown
  have HHT := Lib.hid hT
  have HST := Lib.hid (boxed_kp HBX.out.1 hkc)
  have HRS := Lib.hid (boxed_kp HBX.out.2 hkc)
  clear hbs hb3 hsw hBox hown hT hkc HW
  go_wp2_with fail
  go_fit HB3.out
  rintro e w4 ⟨rfl, rfl⟩
  go_upto_region 11 with fail
  obtain ⟨wq, hwq⟩ : ∃ wq, wq = wc.setCell ⟨w.heap.size + 1, 0, none⟩ (.int .i64 bs) := ⟨_, rfl⟩
  have hsa1 := HSA.out
  have hTq : StI w wq t M := by rw [hwq]; exact StI.restop HKA.out HHT.out (w.heap.size + 1) (by omega) (by omega) _
  have qS : Boxed wq (w.heap.size + 1) 3 (.int .i64 bs) := by rw [hwq]; exact HST.out.set _
  have qR : Boxed wq (w.heap.size + 1 + 1) 4 (.bool false) := by rw [hwq]; exact HRS.out.other (by omega) _
  have qB : Boxed wq B 41 (.slice A8 zs.length c8) := by rw [hwq]; exact HHB.out.other (by omega) _
  have qO : wq.ownsRow wa.heap.size 3 1 (.slice A8 zs.length c8) zs.length (zs.map (Value.int .i64)) := by rw [hwq]; exact own_box HHO.out (by omega)
  have hqs : B < wq.heap.size := qB.lt
  rw [← hwq]
  clear hwq HHT HST HRS HHB HHO c5 f5 c10 hB3
  obtain ⟨wy, hwy⟩ : ∃ wy, wy = wq.alloc (.cells #[.int .i64 0] 3) := ⟨_, rfl⟩
  obtain ⟨AT, hAT⟩ : ∃ AT, AT = wq.heap.size := ⟨_, rfl⟩
  have yA : Boxed wy AT 3 (.int .i64 0) := by rw [hwy, hAT]; exact Boxed.new _ _ _
  have ys : wy.heap.size = AT + 1 := by rw [hwy, hAT]; simp
  have yk : Kp wq wy nob := by rw [hwy]; exact (Kp.refl wq nob).alloc _
  have HQ : Hid (StI w wq t M ∧ wq.ownsRow wa.heap.size 3 1 (.slice A8 zs.length c8) zs.length (zs.map (Value.int .i64)) ∧ AT = wq.heap.size ∧ Boxed wq (w.heap.size + 1) 3 (.int .i64 bs) ∧ Boxed wq (w.heap.size + 1 + 1) 4 (.bool false) ∧ Boxed wq B 41 (.slice A8 zs.length c8)) := ⟨hTq, qO, hAT, qS, qR, qB⟩
  have HYS := Lib.hid (And.intro yk ys)
  have HB := Lib.hid (And.intro (boxed_kp qS yk) (And.intro (boxed_kp qR yk) (And.intro (boxed_kp qB yk) yA)))
  rw [← hAT] at hqs
  go_upto_region 12 with fail
  rw [← hAT, ← hwy]
  clear hwy hTq qS qR qB qO yA ys yk hAT
  have hef := eql_fnI
  go_wp2_with fail
  go_fit (all_okI wy t)
  rintro e w5 ⟨rfl, hw5⟩
  obtain ⟨b5, hb5⟩ : ∃ b5, b5 = wy.heap.size := ⟨_, rfl⟩
  have k5 : Kp wy w5 nob := by rw [← hw5]; exact (Kp.refl wy nob).alloc _
  rw [← hb5]
  clear hw5 hb5
  go_wp2_with fail
  go_fit (all_okI w5 t)
  rintro e ws ⟨rfl, hws⟩
  obtain ⟨bx, hbx⟩ : ∃ bx, bx = w5.heap.size := ⟨_, rfl⟩
  have k6 : Kp w5 ws nob := by rw [← hws]; exact (Kp.refl w5 nob).alloc _
  have xb : ws.cell? ⟨bx, 0, none⟩ = some (.pointer (some ⟨t, 0, none⟩)) := by rw [← hws, hbx]; simp [go_sem]
  rw [← hbx]
  clear hws hbx
  have kall := (HYS.out.1.trans k5 (fun _ _ e => e)).trans k6 (fun _ _ e => e)
  have HK := Lib.hid kall
  have kys := k5.trans k6 (fun _ _ e => e)
  have HB2 := Lib.hid (And.intro (boxed_kp HB.out.1 kys) (And.intro (boxed_kp HB.out.2.1 kys) (And.intro (boxed_kp HB.out.2.2.1 kys) (boxed_kp HB.out.2.2.2 kys))))
  have HXB := Lib.hid xb
  have hAs : AT < ws.heap.size := by have := kys.size; have := HYS.out.2; omega
  clear kall kys k5 k6 xb HB
  go_wp2_with fail
  obtain ⟨v, hTv, _⟩ := HQ.out.1.ex
  have hkq : Below wq.heap.size wq ws := HK.out.below (Nat.le_refl _) (fun _ e => e.elim)
  have hstop := all_stopsI 5 (by omega) wq ws w.heap.size t bx v M hTv (by rw [HLM.out]; omega) hkq HXB.out
  rw [← HQ.out.2.2.1, HLM.out, HFM.out] at hstop
  rw [← HQ.out.2.2.1] at hkq
  have HAQ := Lib.hid HQ.out.2.2.1
  have haw : AT ≤ wq.heap.size := by rw [HAQ.out]; exact Nat.le_refl _
  have HSTOP := Lib.hid hstop
  have HKQ := Lib.hid hkq
  clear hstop hkq hTv
  refine (wpIn_wide (n := 6)).1 ?_
  refine wpIn_rangeFunc_ownG rfl (by omega) (gf := 39) (lb := #[.pointer (some ⟨bx, 0, none⟩)]) rfl trivial (enters_of Try.func39 (by kernel_rfl) rfl)
    HSTOP.out belowK_t (belowK_b (Nat.le_of_lt hAs)) (Below.refl _ _) (fun _ => rfl)
    (fun s W => Boxed W AT 3 (.int .i64 s.length) ∧ Below AT wq W ∧ (s <+: zs ∧ s.length ≤ bs))
    (fun c s W => (Boxed W AT 3 (.int .i64 s.dropLast.length) ∧ Below AT wq W ∧ (c = .exit 0 ∧ s.dropLast.length = bs)) ∨ ¬ s <+: zs)
    (OwnFrom.and (Own.from (boxed_own AT 3 (fun s : List Int => .int .i64 s.length)) _) (OwnFrom.and (ownFrom_below haw (Nat.le_of_lt hAs)) (ownFrom_pure _ (fun s : List Int => s <+: zs ∧ s.length ≤ bs))))
    (fun c s X Y row hs hg hr => hs.imp (fun h => OwnFrom.and (Own.from (boxed_own AT 3 (fun s : List Int => .int .i64 s.dropLast.length)) _) (OwnFrom.and (ownFrom_below haw (Nat.le_of_lt hAs)) (ownFrom_pure _ (fun s : List Int => c = .exit 0 ∧ s.dropLast.length = bs))) s X Y row h hg hr) id)
    ⟨HB2.out.2.2.2, HKQ.out, List.nil_prefix, Nat.zero_le _⟩
    (fun x => { tmps := #[.slice A m c, .agg #[.int .i64 d0, .int .i64 d1, .int .i64 d2], .int .i64 st, undef, .pointer (some ⟨w.heap.size, 0, none⟩), .pointer (some ⟨w.heap.size + 1, 0, none⟩), .pointer (some ⟨w.heap.size + 1 + 1, 0, none⟩), .pointer (some ⟨t, 0, none⟩), .int .i64 ↑a, .int .i64 ↑b, .pointer (some ⟨B, 0, none⟩), .pointer (some ⟨AT, 0, none⟩), .int .i64 x, undef, undef, .bool true, .bool false, u17, u18, u19, u20, u21, .slice A m c, .pointer (some ⟨t, 0, none⟩), .pointer (some ⟨w.heap.size, 0, none⟩), .int .i64 d0, .slice A m c, .int .i64 ↑m, .int .i64 (↑m + 1), .int .i64 ↑a, .int .i64 ↑a, .pointer (some ⟨w.heap.size, 1, none⟩), .int .i64 d1, .slice A m c, .int .i64 ↑m, .int .i64 ↑a, .int .i64 (↑m - ↑a), .int .i64 (↑m - ↑a + 1), .int .i64 ↑q, .int .i64 ↑b, .pointer (some ⟨t, 0, none⟩), .int .i64 ↑a, .int .i64 ↑b, .pointer (some ⟨w.heap.size, 2, none⟩), .int .i64 d2, .pointer (some ⟨w.heap.size, 0, none⟩), .int .i64 d0, .slice (some ⟨w2.heap.size, 0, none⟩) 2 2, .int .i64 0, .bool false, u50, u51, u52, u53, u54, u55, u56, u57, u58, u59, u60, u61, u62, u63, .int .i64 st, .slice A8 zs.length c8, .int .i64 ↑zs.length, .int .i64 (↑zs.length + 1), .int .i64 ↑bs, .pointer (some ⟨t, 0, none⟩), .func (.func 39) #[] #[.pointer (some ⟨b5, 0, none⟩)], .bool false, .pointer (some ⟨t, 0, none⟩), .func (.func 39) #[] #[.pointer (some ⟨bx, 0, none⟩)], .int .i64 x, undef, undef, undef, undef, undef, undef, undef, undef, undef, undef, undef, undef, undef, undef, undef, undef, undef, undef, undef, undef, undef, undef, undef, undef, undef, undef, undef, undef, undef, undef, undef, undef, undef, undef, undef, undef], defers := [] }) ?assign ?body ?done ?stop
  case assign =>
    intro l x W K hK
    gi_wp2
    exact hK
  case body =>
    rintro l pre x W ⟨gA, gB, hpre, hle⟩ hlt
    have kW : Kp wq W nob := (Below.kp gB).mono (fun k hk e => by have := HAQ.out; omega)
    have cA := gA.cell
    have fA := gA.frozen
    have cS := (boxed_kp HQ.out.2.2.2.1 kW).cell
    have cR := (boxed_kp HQ.out.2.2.2.2.1 kW).cell
    have fR := (boxed_kp HQ.out.2.2.2.2.1 kW).frozen
    have cB := (boxed_kp HQ.out.2.2.2.2.2 kW).cell
    have hAW := gA.lt
    have hRW := (boxed_kp HQ.out.2.2.2.2.1 kW).lt
    have hrow := Rd.of_own (own_kp HQ.out.2.1 kW (fun _ _ e => e))
    obtain ⟨g, off, u, rfl, hu, hcu⟩ := hrow.at_.2.2.2 pre.length hlt
    have hue : u = .int .i64 zs[pre.length] := by
      rw [List.getElem?_map, List.getElem?_eq_getElem hlt] at hu
      simpa using hu.symm
    subst hue
    obtain ⟨y, hy⟩ : ∃ y, y = zs[pre.length] := ⟨_, rfl⟩
    rw [← hy] at hcu
    have HY := Lib.hid hy
    have HP := Lib.hid hpre
    have GA := Lib.hid gA
    have GB := Lib.hid gB
    have hpl : pre.length ≤ 302 := by omega
    clear hu hrow hy hpre gA gB kW
    by_cases hbk : pre.length = bs
    · have hd : ((pre.length : Int) == (bs : Int)) = true := by rw [hbk]; simp
      have HBK := Lib.hid hbk
      clear hbk
      gi_wp2_with fail
      exact ⟨KeepsFrom.refl _ _, .inl ⟨by rw [List.dropLast_concat]; exact GA.out, GB.out, rfl, by rw [List.dropLast_concat]; exact HBK.out⟩⟩
    · have hd : ((pre.length : Int) == (bs : Int)) = false := by rw [beq_eq_false_iff_ne]; omega
      have hd2 : decide (zs.length ≤ pre.length) = false := by simp; omega
      by_cases hx : x = y
      · subst hx
        have hd3 : (x != x) = false := by simp
        have hd4 : (x == x) = true := by simp
        gi_wp2_with fail
        refine ⟨(KeepsOthers.setCell _ _ _).from _, (Below.refl AT W).setCell (by simp) _, ?_, GB.out.setCell (by simp) _, ?_, by simp; omega⟩
        · have := GA.out.set (.int .i64 ((pre.length : Int) + 1))
          simpa using this
        · obtain ⟨r, hr⟩ := HP.out
          refine ⟨r.drop 1, ?_⟩
          have hr2 : r = x :: r.drop 1 := by
            cases r with
            | nil => rw [← hr, List.append_nil] at hlt; omega
            | cons z r => 
              have : x = z := by rw [HY.out]; simp [← hr]
              rw [this]; rfl
          rw [List.append_assoc, List.singleton_append, ← hr2, hr]
      · have hd3 : (x != y) = true := by simpa using hx
        have hd4 : (x == y) = false := by simpa using hx
        have HX2 := Lib.hid hx
        clear hx
        gi_wp2_with fail
        refine ⟨(KeepsOthers.setCell _ _ _).from _, .inr ?_⟩
        rintro ⟨r, hr⟩
        apply HX2.out
        rw [HY.out]
        simp [← hr]
  case' done =>
    rintro D ys W hD hys ⟨gA, gB, hpre, hle⟩ hK
    have hbz : bs = zs.length := by rw [hys] at hle; omega
    have gA : Boxed W AT 3 (.int .i64 bs) := by rw [hys] at gA; rw [hbz]; exact gA
    clear hpre hle hys hbz
  case' stop =>
    rintro D cc pre W hD hpre (⟨gA, gB, rfl, hle⟩ | hno) hK
    case inr => exact absurd hpre hno
    have gA : Boxed W AT 3 (.int .i64 bs) := by rw [hle] at gA; exact gA
    clear hpre hle HSTOP
    gi_wp2_with fail
  all_goals
    have kW : Kp wq W nob := (Below.kp gB).mono (fun k hk e => by have := HAQ.out; omega)
    have cB := (boxed_kp HQ.out.2.2.2.2.2 kW).cell
    have hTW := HQ.out.1.step kW
    have hsl := sliceI_all w W t M hTW (by rw [HLM.out]; omega)
    rw [HLM.out, HFM.out] at hsl
    have HSL := Lib.hid hsl
    have HTW := Lib.hid hTW
    have HWK := Lib.hid kW
    have GA := Lib.hid gA
    have HK0 := Lib.hid hK
    clear gA gB kW hTW hsl hK
    go_wp2_with fail
    go_fit HSL.out
    rintro e w9 ⟨u9, rfl, ho9, hk9⟩
    have hk99 := HWK.out.trans hk9 (fun _ _ e => e)
    have heq := eq_okI w9 _ _ zs zs (Rd.of_own ho9) (Rd.of_own (own_kp HQ.out.2.1 hk99 (fun _ _ e => e)))
    rw [decide_eq_true rfl] at heq
    have HEQ := Lib.hid heq
    obtain ⟨A9, c9, rfl, hc91, hc92⟩ := own_slice ho9
    have HK9 := Lib.hid hk99
    have HD9 := Lib.hid (hk9.heap HK0.out id)
    have GA9 := Lib.hid (boxed_kp GA.out hk9)
    have e11 := GA9.out.cell
    have e5 := (boxed_kp HQ.out.2.2.2.1 hk99).cell
    have e10 := (boxed_kp HQ.out.2.2.2.2.2 hk99).cell
    have hdd : ((bs : Int) == (bs : Int)) = true := by simp
    clear heq ho9 hk9 hk99 HSL HTW HWK HK0 GA cB
    go_wp2_with fail
    go_fit HEQ.out
    rintro e w10 ⟨rfl, hd10⟩
    have hk10 := hd10.kp nob
    have HKX := Lib.hid (HK9.out.trans hk10 (fun _ _ e => e))
    have hDK := hk10.heap HD9.out id
    have hRX := boxed_kp HQ.out.2.2.2.2.1 HKX.out
    have cR := hRX.cell
    have fR := hRX.frozen
    have hRD : D ≠ w.heap.size + 1 + 1 := by omega
    have HRX := Lib.hid hRX
    have HDK := Lib.hid hDK
    clear hk10 hd10 hRX hDK HD9 HEQ HK9
    go_wp2_with fail
    have q1 : (w10.setCell ⟨w.heap.size + 1 + 1, 0, none⟩ (.bool true)).heap[D]? = some (.deferred (some [])) := (heap_setCell_other w10 ⟨w.heap.size + 1 + 1, 0, none⟩ D (.bool true) hRD).trans HDK.out
    have hcr : ((w10.setCell ⟨w.heap.size + 1 + 1, 0, none⟩ (.bool true)).putObj D (.deferred none)).cell? ⟨w.heap.size + 1 + 1, 0, none⟩ = some (.bool true) :=
      (World.cell?_of_block (a := ⟨w.heap.size + 1 + 1, 0, none⟩) (World.putObj_heap_other (k := w.heap.size + 1 + 1) (Ne.symm hRD))).trans (HRX.out.set (.bool true)).cell
    have hfin : Kp w ((w10.setCell ⟨w.heap.size + 1 + 1, 0, none⟩ (.bool true)).putObj D (.deferred none)) nob :=
      ((HQ.out.1.kp.trans HKX.out (fun _ _ e => e)).setCell ⟨w.heap.size + 1 + 1, 0, none⟩ _ (fun h => by simp at h; omega)).grown (grownBy_putObj' _ D _) (fun k e hk => by cases e; omega)
    refine ⟨by simp, .inl ⟨_, _, rfl, run_takeDeferred q1, ?_⟩⟩
    exact ⟨.bool true, by simp [results, Try.results7, go_sem, hcr], rfl, hfin⟩
end Go.Proofs.Ytciandflgmmjaaa
