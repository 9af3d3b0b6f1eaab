/- Tables that are none: nil, and the one that nobody has made. -/
import Derived.Test.YtciandflgmmjaaaBp
namespace Go.Proofs.Ytciandflgmmjaaa
set_option linter.unusedVariables false
set_option linter.unusedSimpArgs false
open Go.RowKit Go.Shelf
attribute [local go_sem] Oper.semAt_some
def Abs (w : World) (p : Option Addr) : Prop := p = none ∨ ∃ t, p = some ⟨t, 0, none⟩ ∧ w.cell? ⟨t, 0, none⟩ = some (.bool false)
theorem Abs.kp {w w' : World} {p : Option Addr} (h : Abs w p) (hk : Kp w w' nob) : Abs w' p := by
  rcases h with h | ⟨t, h1, h2⟩
  · exact .inl h
  · exact .inr ⟨t, h1, hk.cell h2 id⟩
theorem none_abs (w : World) (p : Option Addr) (h : Abs w p) : Calls Try.prog 30 #[.pointer p] w fun e w' => e = .returned (.bool true) ∧ w = w' := by
  rcases h with rfl | ⟨t, rfl, hc⟩
  · exact none_nilB w
  · exact none_ptrB w t false hc
theorem len_abs (w : World) (p : Option Addr) (h : Abs w p) : Calls Try.prog 17 #[.pointer p] w fun e w' => e = .returned (.int .i64 0) ∧ w = w' := by
  have hn := none_abs w p h
  clear h
  go_enter Try.func17, Try.ntmps17
  go_wp2_with (go_at_call 30; refine hn.mono ?_; rintro e w' ⟨rfl, rfl⟩)
  go_ret
  exact ⟨rfl, rfl⟩
theorem pieces_abs (w : World) (p : Option Addr) (h : Abs w p) : Calls Try.prog 19 #[.pointer p] w fun e w' => e = .returned (.int .i64 0) ∧ w = w' := by
  have hn := none_abs w p h
  clear h
  go_enter Try.func19, Try.ntmps19
  go_wp2_with (go_at_call 30; refine hn.mono ?_; rintro e w' ⟨rfl, rfl⟩)
  go_ret
  exact ⟨rfl, rfl⟩
theorem snap_abs (w : World) (p : Option Addr) (h : Abs w p) : Calls Try.prog 18 #[.pointer p] w fun e w' => e = .returned (.pointer none) ∧ w = w' := by
  have hn := none_abs w p h
  clear h
  go_enter Try.func18, Try.ntmps18
  go_wp2_with (go_at_call 30; refine hn.mono ?_; rintro e w' ⟨rfl, rfl⟩)
  go_ret
  exact ⟨rfl, rfl⟩
theorem rep_abs (w : World) (p : Option Addr) (a b : Int) (u : Value) (h : Abs w p) : Calls Try.prog 14 #[.pointer p, .int .i64 a, .int .i64 b, u] w fun e w' => e = .returned (.int .i64 1) ∧ w = w' := by
  have hn := none_abs w p h
  clear h
  go_enter Try.func14, Try.ntmps14
  go_wp2_with (go_at_call 30; refine hn.mono ?_; rintro e w' ⟨rfl, rfl⟩)
  go_ret
  exact ⟨rfl, rfl⟩
theorem slice_abs (w : World) (p : Option Addr) (a b : Int) (h : Abs w p) : Calls Try.prog 15 #[.pointer p, .int .i64 a, .int .i64 b] w fun e w' => e = .returned (.tuple #[.slice none 0 0, .int .i64 1]) ∧ Kp w w' nob := by
  have hk2 : Kp w ((w.alloc (.cells #[.int .i64 a] 3)).alloc (.cells #[.int .i64 b] 3)) nob := ((Kp.refl w nob).alloc _).alloc _
  have hn := none_abs _ p (h.kp hk2)
  clear h
  go_enter Try.func15, Try.ntmps15
  go_wp2_with (go_at_call 30; refine hn.mono ?_; rintro e w' ⟨rfl, rfl⟩)
  go_ret2
  exact ⟨rfl, hk2⟩
theorem all_abs (w : World) (p : Option Addr) : Calls Try.prog 28 #[.pointer p] w fun e w' => e = .returned (.func (.func 40) #[] #[.pointer (some ⟨w.heap.size, 0, none⟩)]) ∧ w.alloc (.cells #[.pointer p] 25) = w' := by
  go_enter Try.func28, Try.ntmps28
  go_wp2
  go_ret
  exact ⟨rfl, rfl⟩
set_option maxRecDepth 100000 in
/-- The closure of a table that is none yields nothing. -/
theorem abs_stops (n : Nat) (hn : 2 ≤ n) (w ws : World) (bx : Nat) (p : Option Addr) (h : Abs w p) (hws : Below w.heap.size w ws) (hbx : ws.cell? ⟨bx, 0, none⟩ = some (.pointer p)) :
    SeqStopsK Fence.wide n Try.prog 40 #[.pointer (some ⟨bx, 0, none⟩)] (fun x : Int => #[Value.int .u8 x]) (Below w.heap.size) (fun ys => ys = []) (fun _ => False) 0 ws := fun l J Jx W hW _ _ hY h0 => by
  have hB : Below w.heap.size w W := hws.trans (hW.mono hws.size)
  have hbx' := below_cellB hW hbx
  have habs : Abs W p := by
    rcases h with h | ⟨t, h1, h2⟩
    · exact .inl h
    · exact .inr ⟨t, h1, below_cellB hB h2⟩
  have hnn := none_abs W p habs
  clear h habs hbx hws hY
  show CallsIn Fence.wide n Try.prog 40 _ W _
  refine callsIn_of_wp Try.func40 rfl trivial ?_ rfl
  simp only [Try.ntmps40, List.size_toArray, List.length_cons, List.length_nil, Nat.reduceAdd, Nat.reduceSub, Array.replicate_succ, Array.replicate_zero, List.push_toArray, List.append_toArray, List.nil_append, List.cons_append]
  have h1n : 1 ≤ n := by omega
  gi_wp2_with (refine ⟨trivial, ?_⟩; gi_at_call 30; refine (callsIn_wide.2 hnn).mono ?_; rintro e w' ⟨rfl, rfl⟩)
  refine bodyPost_ret (results_none rfl _ _ _) rfl ?_
  exact ⟨⟨_, rfl⟩, .inl ⟨[], rfl, h0⟩⟩
/-- A range over a table that is none: no round. -/
theorem range_none {ps : Array Tmp} {g : Operand} {body : Code} {Q : Exit → Act → World → Prop} {a : Act} {W : World} (bx : Nat) (p : Option Addr) (hps : ps.size = 1) (hg : a.eval g = .func (.func 40) #[] #[.pointer (some ⟨bx, 0, none⟩)]) (h : Abs W p) (hbx : W.cell? ⟨bx, 0, none⟩ = some (.pointer p))
    (hdone : ∀ (D : Nat) (W' : World), W.heap.size ≤ D → Below W.heap.size W W' → W'.heap[D]? = some (.deferred (some [])) → Q .normal { a with defers := { target := .collected D, args := #[] } :: a.defers } W') :
    Code.wp Try.prog (Code.rangeFunc g ps Code.skip body) Q a W := by
  refine (wpIn_wide (n := 6)).1 ?_
  refine wpIn_rangeFunc_ownG rfl (by omega) (gf := 40) (lb := #[.pointer (some ⟨bx, 0, none⟩)]) hg trivial (enters_of Try.func40 (by kernel_rfl) rfl)
    (abs_stops 5 (by omega) W W bx p h (Below.refl _ _) hbx) belowK_t (belowK_b (Nat.le_refl _)) (Below.refl _ _) (fun _ => hps.symm)
    (fun _ X => Below W.heap.size W X) (fun _ _ _ => False) (ownFrom_below (Nat.le_refl _) (Nat.le_refl _)) (fun _ => ownFrom_pure _ (fun _ => False)) (Below.refl _ _)
    (fun x => { tmps := (ps.zip #[.int .u8 x]).foldl (fun t (p, v) => t.setIfInBounds p v) a.tmps, defers := [] }) ?assign ?body ?done ?stop
  case assign =>
    intro l x X K hK
    exact wpIn_skip hK
  case body =>
    intro l pre x X _ hlt
    exact absurd hlt (Nat.not_lt_zero _)
  case done =>
    intro D xs X hD _ hB hK
    exact hdone D X hD hB hK
  case stop =>
    intro D c pre X hD hp
    exact hp.elim
/-- A function value is not nil. -/
theorem eql_fn (w : World) (b : Nat) : (binOp .eql 57 (.func (.func 40) #[] #[.pointer (some ⟨b, 0, none⟩)]) .nilFunc).run Try.prog w = .ok (.bool false) w := by kernel_rfl
end Go.Proofs.Ytciandflgmmjaaa
