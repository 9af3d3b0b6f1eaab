/- Words for memory: what a call keeps (Kp), slices that read as lists (Rd), lists side by side (All2). Plain lemmas over the model's worlds; no program in sight. -/
import Derived.WalkKit
import Derived.Maps.AppendAt
import Derived.Deep.AppendLies
import Derived.WalkSpells
import Derived.WalkLawsBesides
import Derived.Lib.Hide
import Derived.Deep.RegionWith
import Derived.Deep.QuietTactic
import Derived.BigQuiet
import Derived.Deep.RegionHeld3
import Derived.Laws.CopyOwn
import Derived.Lib.Overlaps
import Derived.Lib.SliceRun
import Derived.Lib.AppendZerosOnto
import Derived.Laws.NewBlocks
import Derived.Laws.Externs
import Derived.Deep.DeepCutAuto
import Derived.Deep.LoopGhost
namespace Go.Proofs.Ytciandflgmmjaaa
set_option linter.unusedVariables false
set_option linter.unusedSimpArgs false
open Go.RowKit

/-! ### What a call keeps: all blocks that were there and are not 'bad' -/
structure Kp (w w' : World) (bad : Nat → Prop) : Prop where
  os : w'.os = w.os
  tape : w'.tape = w.tape
  output : w'.output = w.output
  size : w.heap.size ≤ w'.heap.size
  block : ∀ k, k < w.heap.size → ¬ bad k → w'.heap[k]? = w.heap[k]?

def nob : Nat → Prop := fun _ => False

theorem Kp.refl (w : World) (bad : Nat → Prop) : Kp w w bad := ⟨rfl, rfl, rfl, Nat.le_refl _, fun _ _ _ => rfl⟩
theorem Kp.mono {w w' : World} {bad bad' : Nat → Prop} (h : Kp w w' bad) (hb : ∀ k, k < w.heap.size → bad k → bad' k) : Kp w w' bad' :=
  ⟨h.os, h.tape, h.output, h.size, fun k hk hn => h.block k hk fun e => hn (hb k hk e)⟩
theorem Kp.trans {a b c : World} {bad bad' : Nat → Prop} (h : Kp a b bad) (k : Kp b c bad') (hb : ∀ k, k < a.heap.size → bad' k → bad k) : Kp a c bad :=
  ⟨k.os.trans h.os, k.tape.trans h.tape, k.output.trans h.output, Nat.le_trans h.size k.size, fun i hi hn =>
    (k.block i (Nat.lt_of_lt_of_le hi h.size) fun e => hn (hb i hi e)).trans (h.block i hi hn)⟩
theorem Kp.drew {a w : World} {bad : Nat → Prop} (h : Kp a w bad) : Kp a w.drew bad := ⟨h.os, h.tape, h.output, h.size, h.block⟩
theorem Kp.drewN {a w : World} {bad : Nat → Prop} (h : Kp a w bad) (n : Nat) : Kp a (w.drewN n) bad := ⟨h.os, h.tape, h.output, h.size, h.block⟩
theorem Kp.alloc {a w : World} {bad : Nat → Prop} (h : Kp a w bad) (o : Obj) : Kp a (w.alloc o) bad :=
  h.trans (bad' := nob) ⟨rfl, rfl, rfl, by simp, fun k hk _ => RowKit.Below.heap_alloc w o k hk⟩ (fun _ _ e => e.elim)
theorem Kp.setCell {a w : World} {bad : Nat → Prop} (h : Kp a w bad) (p : Addr) (u : Value) (hb : p.block < a.heap.size → bad p.block) : Kp a (w.setCell p u) bad :=
  h.trans (bad' := fun k => k = p.block) ⟨rfl, rfl, rfl, by simp [World.setCell], fun k _ hn => heap_setCell_other w p k u hn⟩ (fun k hk e => by subst e; exact hb hk)
theorem Kp.grown {a w w' : World} {bad : Nat → Prop} {row : Option Nat} (h : Kp a w bad) (hg : w.grownBy w' row) (hb : ∀ k, row = some k → k < a.heap.size → bad k) : Kp a w' bad :=
  h.trans (bad' := fun k => row = some k) ⟨hg.os, hg.tape, hg.output, hg.size, fun k hk hn => hg.block k hk (fun e => hn e.symm)⟩ (fun k hk e => hb k e hk)
theorem Kp.of_grown {w w' : World} {row : Option Nat} (hg : w.grownBy w' row) : Kp w w' (fun k => row = some k) :=
  ⟨hg.os, hg.tape, hg.output, hg.size, fun k hk hn => hg.block k hk (fun e => hn e.symm)⟩
theorem Kp.heap {w w' : World} {bad : Nat → Prop} (h : Kp w w' bad) {k : Nat} {o : Obj} (hk : w.heap[k]? = some o) (hb : ¬ bad k) : w'.heap[k]? = some o :=
  (h.block k (Array.getElem?_eq_some_iff.1 hk).1 hb).trans hk
theorem Kp.cell {w w' : World} {bad : Nat → Prop} (h : Kp w w' bad) {p : Addr} {v : Value} (hv : w.cell? p = some v) (hb : ¬ bad p.block) : w'.cell? p = some v :=
  (World.cell?_of_block (h.block p.block (World.block_lt_of_cell? w p hv) hb)).trans hv
theorem Kp.frozen {w w' : World} {bad : Nat → Prop} (h : Kp w w' bad) {p : Addr} {f : Bool} (hp : p.block < w.heap.size) (hv : w.frozen? p = f) (hb : ¬ bad p.block) : w'.frozen? p = f :=
  (World.frozen?_of_block (h.block p.block hp hb)).trans hv
/-- Nothing that was there has turned but blocks from B on. -/
theorem Kp.below {w w' : World} {bad : Nat → Prop} (h : Kp w w' bad) {B : Nat} (hB : B ≤ w.heap.size) (hb : ∀ k, bad k → B ≤ k) : Below B w w' :=
  ⟨h.os, h.tape, h.output, h.size, fun k hk => h.block k (by omega) (fun e => by have := hb k e; omega)⟩
theorem Below.kp {B : Nat} {w w' : World} (h : Below B w w') : Kp w w' (fun k => B ≤ k) := ⟨h.os, h.tape, h.output, h.size, fun k _ hn => h.block k (by omega)⟩

/-! ### Two lists side by side -/
def All2 {α β : Type} (R : α → β → Prop) : List α → List β → Prop
  | [], [] => True
  | a :: l, b :: m => R a b ∧ All2 R l m
  | _, _ => False
section
variable {α β : Type} {R R' : α → β → Prop}
theorem All2.length : ∀ {l : List α} {m : List β}, All2 R l m → l.length = m.length
  | [], [], _ => rfl
  | _ :: _, _ :: _, h => by simp [All2.length h.2]
  | [], _ :: _, h => h.elim
  | _ :: _, [], h => h.elim
theorem All2.imp (hi : ∀ a b, R a b → R' a b) : ∀ {l : List α} {m : List β}, All2 R l m → All2 R' l m
  | [], [], _ => trivial
  | _ :: _, _ :: _, h => ⟨hi _ _ h.1, All2.imp hi h.2⟩
  | [], _ :: _, h => h.elim
  | _ :: _, [], h => h.elim
theorem All2.append : ∀ {l : List α} {m : List β} {l' : List α} {m' : List β}, All2 R l m → All2 R l' m' → All2 R (l ++ l') (m ++ m')
  | [], [], _, _, _, h' => h'
  | _ :: _, _ :: _, _, _, h, h' => ⟨h.1, All2.append h.2 h'⟩
  | [], _ :: _, _, _, h, _ => h.elim
  | _ :: _, [], _, _, h, _ => h.elim
theorem All2.take : ∀ {l : List α} {m : List β} (n : Nat), All2 R l m → All2 R (l.take n) (m.take n)
  | l, m, 0, _ => by simp only [List.take_zero]; trivial
  | [], [], n + 1, _ => by simp only [List.take_nil]; trivial
  | _ :: _, _ :: _, n + 1, h => ⟨h.1, All2.take n h.2⟩
  | [], _ :: _, _ + 1, h => h.elim
  | _ :: _, [], _ + 1, h => h.elim
theorem All2.drop : ∀ {l : List α} {m : List β} (n : Nat), All2 R l m → All2 R (l.drop n) (m.drop n)
  | l, m, 0, h => h
  | [], [], n + 1, _ => by simp only [List.drop_nil]; trivial
  | _ :: _, _ :: _, n + 1, h => All2.drop n h.2
  | [], _ :: _, _ + 1, h => h.elim
  | _ :: _, [], _ + 1, h => h.elim
theorem All2.get : ∀ {l : List α} {m : List β} (i : Nat) (_ : All2 R l m) {b : β}, m[i]? = some b → ∃ a, l[i]? = some a ∧ R a b
  | [], [], i, _, b, hb => by simp at hb
  | a :: l, c :: m, 0, h, b, hb => by simp at hb; subst hb; exact ⟨a, by simp, h.1⟩
  | a :: l, c :: m, i + 1, h, b, hb => by simpa using All2.get i h.2 (by simpa using hb)
  | [], _ :: _, _, h, _, _ => h.elim
  | _ :: _, [], _, h, _, _ => h.elim
end

/-! ### A slice that reads as a list of values of one cell each -/
def Rd (w : World) (v : Value) (xs : List Value) : Prop :=
  ∃ A c, v = .slice A xs.length c ∧ xs.length ≤ c ∧ c ≤ maxLen ∧ (0 < xs.length → ∃ b off, A = some ⟨b, off, none⟩ ∧ ∀ j u, xs[j]? = some u → w.cell? ⟨b, off + j, none⟩ = some u)

theorem Rd.kp {w w' : World} {bad : Nat → Prop} {v : Value} {xs : List Value} (h : Rd w v xs) (hk : Kp w w' bad) (hb : ∀ b, v.ownBlock = some b → ¬ bad b) : Rd w' v xs := by
  obtain ⟨A, c, rfl, h1, h2, h3⟩ := h
  refine ⟨A, c, rfl, h1, h2, fun hp => ?_⟩
  obtain ⟨b, off, rfl, hc⟩ := h3 hp
  exact ⟨b, off, rfl, fun j u hu => hk.cell (hc j u hu) (hb b rfl)⟩
theorem Rd.drew {w : World} {v : Value} {xs : List Value} (h : Rd w v xs) : Rd w.drew v xs := h
theorem Rd.alloc {w : World} {v : Value} {xs : List Value} (h : Rd w v xs) (o : Obj) : Rd (w.alloc o) v xs := h.kp ((Kp.refl w nob).alloc o) (fun _ _ e => e.elim)
theorem Rd.nil (w : World) : Rd w (.slice none 0 0) [] := ⟨none, 0, rfl, Nat.le_refl _, by simp [maxLen], fun h => absurd h (by simp)⟩
theorem Rd.shape {w : World} {v : Value} {xs : List Value} (h : Rd w v xs) : ∃ A c, v = .slice A xs.length c := by
  obtain ⟨A, c, h, _⟩ := h
  exact ⟨A, c, h⟩
theorem Rd.at_ {w : World} {A : Option Addr} {n c : Nat} {xs : List Value} (h : Rd w (.slice A n c) xs) : xs.length = n ∧ n ≤ c ∧ c ≤ maxLen ∧ ∀ k, k < n → ∃ b off u, A = some ⟨b, off, none⟩ ∧ xs[k]? = some u ∧ w.cell? ⟨b, off + k, none⟩ = some u := by
  obtain ⟨A', c', h0, h1, h2, h3⟩ := h
  injection h0 with hA hn hc
  subst hA; subst hn; subst hc
  refine ⟨rfl, h1, h2, fun k hk => ?_⟩
  obtain ⟨b, off, rfl, hc⟩ := h3 (by omega)
  exact ⟨b, off, xs[k], rfl, List.getElem?_eq_getElem hk, hc k _ (List.getElem?_eq_getElem hk)⟩
/-- A row of the call's own reads as its cells. -/
theorem Rd.of_own {w : World} {base : Nat} {e : TypeId} {v : Value} {n : Nat} {xs : List Value} (h : w.ownsRow base e 1 v n xs) : Rd w v xs := by
  have hl : xs.length = n := by simpa using h.1
  rcases h.2 with ⟨rfl, h0⟩ | ⟨g, cap, cur, rfl, hb, hg, hnc, hcm, hcs, ht⟩
  · subst h0
    obtain rfl := List.eq_nil_of_length_eq_zero hl
    exact Rd.nil w
  · refine ⟨some ⟨g, 0, none⟩, cap, by rw [hl], by omega, hcm, fun _ => ⟨g, 0, rfl, fun j u hu => ?_⟩⟩
    have hc := h.cells (g := g) rfl j u hu
    rwa [show (⟨g, 0, none⟩ : Addr).add j = ⟨g, 0 + j, none⟩ from by unfold Addr.add; split <;> simp_all] at hc
theorem Rd.drop_ {w : World} {A : Option Addr} {n c i : Nat} {xs : List Value} (h : Rd w (.slice A n c) xs) (hi : i ≤ n) :
    Rd w (.slice (if c = i then A else A.map (·.add i)) (n - i) (c - i)) (xs.drop i) := by
  obtain ⟨A', c', h0, h1, h2, h3⟩ := h
  injection h0 with hA hn hc
  subst hA; subst hn; subst hc
  refine ⟨_, c - i, by rw [List.length_drop], by rw [List.length_drop]; omega, by omega, fun hp => ?_⟩
  rw [List.length_drop] at hp
  obtain ⟨b, off, rfl, hc⟩ := h3 (by omega)
  rw [if_neg (by omega)]
  refine ⟨b, off + i, ?_, fun j u hu => ?_⟩
  · simp only [Option.map_some, Addr.add]
    split <;> simp_all
  · rw [List.getElem?_drop] at hu
    rw [Nat.add_assoc]
    exact hc _ u hu
theorem Rd.take_ {w : World} {A : Option Addr} {n c i c' : Nat} {xs : List Value} (h : Rd w (.slice A n c) xs) (hi : i ≤ n) (hic : i ≤ c') (hc' : c' ≤ c) : Rd w (.slice A i c') (xs.take i) := by
  obtain ⟨A', c', h0, h1, h2, h3⟩ := h
  injection h0 with hA hn hc
  subst hA; subst hn; subst hc
  refine ⟨A, _, by rw [List.length_take, Nat.min_eq_left hi], by rw [List.length_take]; omega, by omega, fun hp => ?_⟩
  rw [List.length_take] at hp
  obtain ⟨b, off, rfl, hc⟩ := h3 (by omega)
  refine ⟨b, off, rfl, fun j u hu => hc j u ?_⟩
  rw [List.getElem?_take] at hu
  split at hu
  · exact hu
  · cases hu
theorem ints_len {k : IntKind} (l : List Int) : (l.map (Value.int k)).length = l.length := by simp

/-! ### append(v, u...): v a row of the call's own, u a slice that reads as a list -/
section
variable {P : Program} (w : World)
theorem add_plain (g o j : Nat) : (⟨g, o, none⟩ : Addr).add j = ⟨g, o + j, none⟩ := by unfold Addr.add; split <;> simp_all
theorem run_append_rd (base : Nat) (t ty e : TypeId) (z : Value) (bytes : Nat) (ht : P.underlying t = some (.slice e)) (hinfo : (P.info? e).map (fun i => (i.zero, i.size, i.bytes)) = some (some z, 1, bytes)) (hzs : z.cells.size = 1)
    (v : Value) (xs : List Value) (hown : w.ownsRow base e 1 v xs.length xs) (u : Value) (news : List Value) (hr : Rd w u news) (h1 : ∀ u ∈ news, u.oneCell' = true)
    (hbytes : (xs.length + news.length) * bytes ≤ 140737488355328) (h63 : xs.length + news.length ≤ 140737488355328) (hbase : base ≤ w.heap.size) :
    ∃ v' w', (Builtin.append_ #[t, t] ty #[v, u]).run P w = .ok v' w' ∧ w'.ownsRow base e 1 v' (xs ++ news).length (xs ++ news) ∧ w.grownBy w' v.ownBlock ∧
      (v'.ownBlock = v.ownBlock ∨ v'.ownBlock = some w.heap.size) := by
  obtain ⟨i, hi, hzz⟩ := Option.map_eq_some_iff.1 hinfo
  simp only [Prod.mk.injEq] at hzz
  obtain ⟨hz, hsize, hby⟩ := hzz
  obtain ⟨A, c, rfl, hc1, hc2, hcell⟩ := hr
  rcases A with _ | ad
  · have h0 : news.length = 0 := by
      rcases Nat.eq_zero_or_pos news.length with h0 | h0
      · exact h0
      · obtain ⟨b, off, h, _⟩ := hcell h0
        cases h
    obtain rfl := List.eq_nil_of_length_eq_zero h0
    refine ⟨v, w, ?_, by simpa using hown, ⟨rfl, rfl, rfl, Nat.le_refl _, fun _ _ _ => rfl⟩, .inl rfl⟩
    rcases hown.2 with ⟨rfl, hn⟩ | ⟨g, cap, cur, rfl, _, _, hnc, _⟩
    · simp [Builtin.append_, run_underlying ht, sizeOf, typeInfo, hi, Builtin.lenOf, Builtin.firstCells]
    · simp [Builtin.append_, run_underlying ht, sizeOf, typeInfo, hi, Builtin.lenOf, Builtin.firstCells, hnc, storeCells]
  · have hcells : ∀ j u, news[j]? = some u → w.cell? (ad.add j) = some u := by
      intro j u hu
      have hlt : j < news.length := (List.getElem?_eq_some_iff.1 hu).1
      obtain ⟨b, off, h, hc⟩ := hcell (by omega)
      injection h with h
      subst h
      rw [add_plain]
      exact hc j u hu
    obtain ⟨v', w', hrun, h2, h3, _, h5⟩ := run_append_own_at (P := P) w base t ty e i z 1 bytes ht hi hz hsize hby hzs (by omega) v xs.length xs hown ad news.length c news (by simp) hcells h1 (by simp only [maxLen]; omega) hbytes hbase
    exact ⟨v', w', hrun, by simpa using h2, h3, h5⟩
theorem wp_append_rd {o : Oper} {a : Act} {K : Act → World → Prop} {Q : Exit → Act → World → Prop} (s x : Operand) (t : TypeId)
    (ho : o.op = .call { callee := .builtin .append, args := #[s, x], argTypes := #[t, t] })
    (base : Nat) (e : TypeId) (z : Value) (bytes : Nat) (ht : P.underlying t = some (.slice e)) (hinfo : (P.info? e).map (fun i => (i.zero, i.size, i.bytes)) = some (some z, 1, bytes)) (hzs : z.cells.size = 1)
    (v : Value) (xs : List Value) (hs : a.eval s = v) (hown : w.ownsRow base e 1 v xs.length xs) (row : Option Nat) (hrow : v.ownBlock = row) (u : Value) (news : List Value) (hx : a.eval x = u) (hr : Rd w u news) (h1 : ∀ u ∈ news, u.oneCell' = true)
    (hbytes : (xs.length + news.length) * bytes ≤ 140737488355328) (h63 : xs.length + news.length ≤ 140737488355328) (hbase : base ≤ w.heap.size)
    (h : ∀ v' w', w'.ownsRow base e 1 v' (xs ++ news).length (xs ++ news) → w.grownBy w' row → (v'.ownBlock = row ∨ v'.ownBlock = some w.heap.size) → K (a.put o.dst v') w') : o.wp P a w K Q := by
  obtain ⟨v', w', hrun, h2, h3, h4⟩ := run_append_rd (P := P) w base t o.type e z bytes ht hinfo hzs v xs hown u news hr h1 hbytes h63 hbase
  subst hrow
  unfold Oper.wp execOp
  simp only [ho, resolve, invoke, builtin, Sem.run_bind, Sem.run_pure, Result.andThen_ok, List.map_toArray, List.map_cons, List.map_nil, hs, hx, hrun]
  exact h v' w' h2 h3 h4
theorem wpList_append_rd {ops : Array Oper} {rest : List Oper} {o : Oper} {a : Act} {Q : Exit → Act → World → Prop} (hgd : o.guard = none) (s x : Operand) (t : TypeId)
    (ho : o.op = .call { callee := .builtin .append, args := #[s, x], argTypes := #[t, t] })
    (base : Nat) (e : TypeId) (z : Value) (bytes : Nat) (ht : P.underlying t = some (.slice e)) (hinfo : (P.info? e).map (fun i => (i.zero, i.size, i.bytes)) = some (some z, 1, bytes)) (hzs : z.cells.size = 1)
    (v : Value) (xs : List Value) (hs : a.eval s = v) (hown : w.ownsRow base e 1 v xs.length xs) (row : Option Nat) (hrow : v.ownBlock = row) (u : Value) (news : List Value) (hx : a.eval x = u) (hr : Rd w u news) (h1 : ∀ u ∈ news, u.oneCell' = true)
    (hbytes : (xs.length + news.length) * bytes ≤ 140737488355328) (h63 : xs.length + news.length ≤ 140737488355328) (hbase : base ≤ w.heap.size)
    (h : ∀ v' w', w'.ownsRow base e 1 v' (xs ++ news).length (xs ++ news) → w.grownBy w' row → (v'.ownBlock = row ∨ v'.ownBlock = some w.heap.size) → wpList P ops Q rest (a.put o.dst v') w') : wpList P ops Q (o :: rest) a w :=
  wpList_plain hgd fun _ hK => wp_append_rd w s x t ho base e z bytes ht hinfo hzs v xs hs hown row hrow u news hx hr h1 hbytes h63 hbase fun v' w' h2 h3 h4 => hK _ _ (h v' w' h2 h3 h4)
theorem ownBlock_slice (A : Option Addr) (n c : Nat) : (Value.slice A n c).ownBlock = A.map (·.block) := by cases A <;> rfl
theorem step_append_rd {ops : Array Oper} {o : Oper} {a : Act} {K : Act → World → Prop} {Q : Exit → Act → World → Prop} {E : Prop} (hgd : o.guard = none) (s x : Operand) (t : TypeId)
    (ho : o.op = .call { callee := .builtin .append, args := #[s, x], argTypes := #[t, t] })
    (base : Nat) (e : TypeId) (z : Value) (bytes : Nat) (ht : P.underlying t = some (.slice e)) (hinfo : (P.info? e).map (fun i => (i.zero, i.size, i.bytes)) = some (some z, 1, bytes)) (hzs : z.cells.size = 1)
    (v : Value) (xs : List Value) (hs : a.eval s = v) (hown : w.ownsRow base e 1 v xs.length xs) (row : Option Nat) (hrow : v.ownBlock = row) (u : Value) (news : List Value) (hx : a.eval x = u) (hr : Rd w u news) (h1 : ∀ u ∈ news, u.oneCell' = true)
    (hbytes : (xs.length + news.length) * bytes ≤ 140737488355328) (h63 : xs.length + news.length ≤ 140737488355328) (hbase : base ≤ w.heap.size)
    (h : ∀ v' w', w'.ownsRow base e 1 v' (xs ++ news).length (xs ++ news) → w.grownBy w' row → (v'.ownBlock = row ∨ v'.ownBlock = some w.heap.size) → K (a.put o.dst v') w') :
    if Region.wanted o (yielded ops a.tmps) = true then Oper.wp P o a w K Q else E := by
  have hw : Region.wanted o (yielded ops a.tmps) = true := by simp [Region.wanted, hgd]
  rw [if_pos hw]
  exact wp_append_rd w s x t ho base e z bytes ht hinfo hzs v xs hs hown row hrow u news hx hr h1 hbytes h63 hbase h
end

/-! ### copy(dst, src), dst in a row that is known whole -/
section
variable {P : Program} (w : World)
theorem setRow_kp (g : Nat) (cs : Array Value) : Kp w (w.setRow g cs) (fun k => k = g) := ⟨rfl, rfl, rfl, by simp [World.setRow], fun k _ hn => setRow_other w g k cs hn⟩
theorem run_copy_kp (dT sT ty elem : TypeId) (hu : P.underlying dT = some (.slice elem)) (hsz : (P.info? elem).map (·.size) = some 1)
    (dp sp : Option Addr) (dLen dCap sLen sCap g off : Nat) (cur : List Value) (t : TypeId) (hg : w.heap[g]? = some (.cells cur.toArray t (0, 0))) (cs : List Value) (hn : cs.length = Nat.min sLen dLen)
    (hpos : 0 < cs.length → dp = some ⟨g, off, none⟩ ∧ ∃ ad, sp = some ad ∧ ∀ j v, cs[j]? = some v → w.cell? (ad.add j) = some v)
    (hfit : off + cs.length ≤ cur.length) (h1 : ∀ v ∈ cs, v.oneCell' = true) :
    ∃ w', (Builtin.copy_ #[dT, sT] ty #[.slice dp dLen dCap, .slice sp sLen sCap]).run P w = .ok (goInt cs.length) w' ∧ w'.heap[g]? = some (.cells (splice cur off cs).toArray t (0, 0)) ∧ Kp w w' (fun k => k = g) := by
  by_cases h0 : cs.length = 0
  · obtain rfl : cs = [] := List.eq_nil_of_length_eq_zero h0
    exact ⟨w, run_copy_none (P := P) w dT sT ty elem dp sp dLen dCap sLen sCap hu hsz (by simpa using hn.symm), by simpa [splice] using hg, Kp.refl _ _⟩
  · obtain ⟨rfl, ad, rfl, hsrc⟩ := hpos (by omega)
    refine ⟨_, run_copy_row (P := P) w dT sT ty elem g off dLen dCap ad sLen sCap cur.toArray t cs hu hsz hg hn hsrc (by simpa using hfit) h1, ?_, setRow_kp w g _⟩
    simpa [splice] using setRow_heap w g _ _ t _ hg
theorem wp_copy_kp {o : Oper} {a : Act} {K : Act → World → Prop} {Q : Exit → Act → World → Prop} (d s : Operand) (dT sT : TypeId)
    (ho : o.op = .call { callee := .builtin .copy, args := #[d, s], argTypes := #[dT, sT] }) (elem : TypeId) (hu : P.underlying dT = some (.slice elem)) (hsz : (P.info? elem).map (·.size) = some 1)
    (dp sp : Option Addr) (dLen dCap sLen sCap : Nat) (hd : a.eval d = .slice dp dLen dCap) (hs : a.eval s = .slice sp sLen sCap)
    (g off : Nat) (cur : List Value) (t : TypeId) (hg : w.heap[g]? = some (.cells cur.toArray t (0, 0))) (cs : List Value) (hn : cs.length = Nat.min sLen dLen)
    (hpos : 0 < cs.length → dp = some ⟨g, off, none⟩ ∧ ∃ ad, sp = some ad ∧ ∀ j v, cs[j]? = some v → w.cell? (ad.add j) = some v)
    (hfit : off + cs.length ≤ cur.length) (h1 : ∀ v ∈ cs, v.oneCell' = true)
    (h : ∀ w', Hid (w'.heap[g]? = some (.cells (splice cur off cs).toArray t (0, 0))) → Kp w w' (fun k => k = g) → K (a.put o.dst (goInt cs.length)) w') : o.wp P a w K Q := by
  obtain ⟨w', hrun, h2, h3⟩ := run_copy_kp (P := P) w dT sT o.type elem hu hsz dp sp dLen dCap sLen sCap g off cur t hg cs hn hpos hfit h1
  unfold Oper.wp
  simp [execOp, ho, resolve, invoke, builtin, hd, hs, hrun, Result.andThen]
  exact h w' h2 h3
theorem wpList_copy_kp {ops : Array Oper} {rest : List Oper} {o : Oper} {a : Act} {Q : Exit → Act → World → Prop} (hgd : o.guard = none) (d s : Operand) (dT sT : TypeId)
    (ho : o.op = .call { callee := .builtin .copy, args := #[d, s], argTypes := #[dT, sT] }) (elem : TypeId) (hu : P.underlying dT = some (.slice elem)) (hsz : (P.info? elem).map (·.size) = some 1)
    (dp sp : Option Addr) (dLen dCap sLen sCap : Nat) (hd : a.eval d = .slice dp dLen dCap) (hs : a.eval s = .slice sp sLen sCap)
    (g off : Nat) (cur : List Value) (t : TypeId) (hg : w.heap[g]? = some (.cells cur.toArray t (0, 0))) (cs : List Value) (hn : cs.length = Nat.min sLen dLen)
    (hpos : 0 < cs.length → dp = some ⟨g, off, none⟩ ∧ ∃ ad, sp = some ad ∧ ∀ j v, cs[j]? = some v → w.cell? (ad.add j) = some v)
    (hfit : off + cs.length ≤ cur.length) (h1 : ∀ v ∈ cs, v.oneCell' = true)
    (h : ∀ w', Hid (w'.heap[g]? = some (.cells (splice cur off cs).toArray t (0, 0))) → Kp w w' (fun k => k = g) → wpList P ops Q rest (a.put o.dst (goInt cs.length)) w') : wpList P ops Q (o :: rest) a w :=
  wpList_plain hgd fun _ hK => wp_copy_kp w d s dT sT ho elem hu hsz dp sp dLen dCap sLen sCap hd hs g off cur t hg cs hn hpos hfit h1 fun w' h2 h3 => hK _ _ (h w' h2 h3)
theorem step_copy_kp {ops : Array Oper} {o : Oper} {a : Act} {K : Act → World → Prop} {Q : Exit → Act → World → Prop} {E : Prop} (hgd : o.guard = none) (d s : Operand) (dT sT : TypeId)
    (ho : o.op = .call { callee := .builtin .copy, args := #[d, s], argTypes := #[dT, sT] }) (elem : TypeId) (hu : P.underlying dT = some (.slice elem)) (hsz : (P.info? elem).map (·.size) = some 1)
    (dp sp : Option Addr) (dLen dCap sLen sCap : Nat) (hd : a.eval d = .slice dp dLen dCap) (hs : a.eval s = .slice sp sLen sCap)
    (g off : Nat) (cur : List Value) (t : TypeId) (hg : w.heap[g]? = some (.cells cur.toArray t (0, 0))) (cs : List Value) (hn : cs.length = Nat.min sLen dLen)
    (hpos : 0 < cs.length → dp = some ⟨g, off, none⟩ ∧ ∃ ad, sp = some ad ∧ ∀ j v, cs[j]? = some v → w.cell? (ad.add j) = some v)
    (hfit : off + cs.length ≤ cur.length) (h1 : ∀ v ∈ cs, v.oneCell' = true)
    (h : ∀ w', Hid (w'.heap[g]? = some (.cells (splice cur off cs).toArray t (0, 0))) → Kp w w' (fun k => k = g) → K (a.put o.dst (goInt cs.length)) w') :
    if Region.wanted o (yielded ops a.tmps) = true then Oper.wp P o a w K Q else E := by
  have hw : Region.wanted o (yielded ops a.tmps) = true := by simp [Region.wanted, hgd]
  rw [if_pos hw]
  exact wp_copy_kp w d s dT sT ho elem hu hsz dp sp dLen dCap sLen sCap hd hs g off cur t hg cs hn hpos hfit h1 h
/-- A builtin of two arguments whose run is known. -/
theorem wp_bi_run {o : Oper} {a : Act} {K : Act → World → Prop} {Q : Exit → Act → World → Prop} (b : Builtin) (d s : Operand) (t t' : TypeId)
    (ho : o.op = .call { callee := .builtin b, args := #[d, s], argTypes := #[t, t'] }) (hb : b = .copy ∨ b = .append) (v u : Value) (hd : a.eval d = v) (hs : a.eval s = u) {v' : Value} {w' : World}
    (hr : (match b with | .copy => Builtin.copy_ #[t, t'] o.type #[v, u] | _ => Builtin.append_ #[t, t'] o.type #[v, u]).run P w = .ok v' w') (h : K (a.put o.dst v') w') : o.wp P a w K Q := by
  unfold Oper.wp execOp
  rcases hb with rfl | rfl <;>
  · simp only [] at hr
    simp only [ho, resolve, invoke, builtin, Sem.run_bind, Sem.run_pure, Result.andThen_ok, List.map_toArray, List.map_cons, List.map_nil, hd, hs, hr]
    exact h
theorem wpList_clear_run {ops : Array Oper} {rest : List Oper} {o : Oper} {a : Act} {Q : Exit → Act → World → Prop} (hgd : o.guard = none) (s : Operand) (t : TypeId)
    (ho : o.op = .call { callee := .builtin .clear, args := #[s], argTypes := #[t] }) (v : Value) (hs : a.eval s = v) {v' : Value} {w' : World}
    (hr : (Builtin.clear_ #[t] o.type #[v]).run P w = .ok v' w') (h : wpList P ops Q rest (a.put o.dst v') w') : wpList P ops Q (o :: rest) a w :=
  wpList_plain hgd fun K hK => by
    unfold Oper.wp execOp
    simp only [ho, resolve, invoke, builtin, Sem.run_bind, Sem.run_pure, Result.andThen_ok, List.map_toArray, List.map_cons, List.map_nil, hs, hr]
    exact hK _ _ h
theorem wpList_copy_run {ops : Array Oper} {rest : List Oper} {o : Oper} {a : Act} {Q : Exit → Act → World → Prop} (hgd : o.guard = none) (d s : Operand) (t t' : TypeId)
    (ho : o.op = .call { callee := .builtin .copy, args := #[d, s], argTypes := #[t, t'] }) (v u : Value) (hd : a.eval d = v) (hs : a.eval s = u) {v' : Value} {w' : World}
    (hr : (Builtin.copy_ #[t, t'] o.type #[v, u]).run P w = .ok v' w') (h : wpList P ops Q rest (a.put o.dst v') w') : wpList P ops Q (o :: rest) a w :=
  wpList_plain hgd fun _ hK => wp_bi_run w .copy d s t t' ho (.inl rfl) v u hd hs hr (hK _ _ h)
theorem step_copy_run {ops : Array Oper} {o : Oper} {a : Act} {K : Act → World → Prop} {Q : Exit → Act → World → Prop} {E : Prop}
    (hg : o.guard = none) (d s : Operand) (t t' : TypeId) (ho : o.op = .call { callee := .builtin .copy, args := #[d, s], argTypes := #[t, t'] }) (v u : Value) (hd : a.eval d = v) (hs : a.eval s = u) {v' : Value} {w' : World}
    (hr : (Builtin.copy_ #[t, t'] o.type #[v, u]).run P w = .ok v' w') (hK : K (a.put o.dst v') w') : if Region.wanted o (yielded ops a.tmps) = true then Oper.wp P o a w K Q else E := by
  have hw : Region.wanted o (yielded ops a.tmps) = true := by simp [Region.wanted, hg]
  rw [if_pos hw]
  exact wp_bi_run w .copy d s t t' ho (.inl rfl) v u hd hs hr hK
theorem step_append_run {ops : Array Oper} {o : Oper} {a : Act} {K : Act → World → Prop} {Q : Exit → Act → World → Prop} {E : Prop}
    (hg : o.guard = none) (d s : Operand) (t t' : TypeId) (ho : o.op = .call { callee := .builtin .append, args := #[d, s], argTypes := #[t, t'] }) (v u : Value) (hd : a.eval d = v) (hs : a.eval s = u) {v' : Value} {w' : World}
    (hr : (Builtin.append_ #[t, t'] o.type #[v, u]).run P w = .ok v' w') (hK : K (a.put o.dst v') w') : if Region.wanted o (yielded ops a.tmps) = true then Oper.wp P o a w K Q else E := by
  have hw : Region.wanted o (yielded ops a.tmps) = true := by simp [Region.wanted, hg]
  rw [if_pos hw]
  exact wp_bi_run w .append d s t t' ho (.inr rfl) v u hd hs hr hK
/-- append(s[:i], u...), where there is room: in place. -/
theorem run_append_room_rd (t ty e : TypeId) (ht : P.underlying t = some (.slice e)) (hsz : (P.info? e).map (·.size) = some 1) (g n c : Nat) (cur : List Value) (hg : w.heap[g]? = some (.cells cur.toArray e (0, 0)))
    (u : Value) (news : List Value) (hr : Rd w u news) (h1 : ∀ u ∈ news, u.oneCell' = true) (hroom : n + news.length ≤ c) (hc : cur.length = c) :
    ∃ w', (Builtin.append_ #[t, t] ty #[.slice (some ⟨g, 0, none⟩) n c, u]).run P w = .ok (.slice (some ⟨g, 0, none⟩) (n + news.length) c) w' ∧ w'.heap[g]? = some (.cells (splice cur n news).toArray e (0, 0)) ∧ Kp w w' (fun k => k = g) := by
  obtain ⟨i, hi, hsize⟩ := Option.map_eq_some_iff.1 hsz
  obtain ⟨A, d, rfl, _, _, hcell⟩ := hr
  rcases A with _ | ad
  · have h0 : news.length = 0 := by
      rcases Nat.eq_zero_or_pos news.length with h0 | h0
      · exact h0
      · obtain ⟨b, off, h, _⟩ := hcell h0
        cases h
    obtain rfl := List.eq_nil_of_length_eq_zero h0
    refine ⟨w, ?_, by simpa [splice] using hg, Kp.refl _ _⟩
    have : n ≤ c := by simpa using hroom
    simp [Builtin.append_, run_underlying ht, sizeOf, typeInfo, hi, Builtin.lenOf, Builtin.firstCells, this, storeCells]
  · have hcells : ∀ j u, news[j]? = some u → w.cell? (ad.add j) = some u := by
      intro j u hu
      have hlt : j < news.length := (List.getElem?_eq_some_iff.1 hu).1
      obtain ⟨b, off, h, hc⟩ := hcell (by omega)
      injection h with h
      subst h
      rw [add_plain]
      exact hc j u hu
    have hrun := run_append_room (P := P) w t ty e i ht hi g n c cur.toArray hg ad news.length d news (by simp [hsize]) hcells h1 hroom (by simp [hsize]; omega)
    refine ⟨_, hrun, ?_, setRow_kp w g _⟩
    simp only [hsize, Nat.mul_one]
    simpa [splice] using setRow_heap w g _ _ e _ hg
/-- append(s[:i], make(S, k)...), where there is no room: a new row. -/
theorem run_append_zeros_rd (t tn ty e : TypeId) (z : Value) (bytes : Nat) (kq kn : IntKind) (ht : P.underlying t = some (.slice e)) (htn : P.underlying tn = some (.int kn)) (hinfo : (P.info? e).map (fun i => (i.zero, i.size, i.bytes)) = some (some z, 1, bytes)) (hzs : z.cells.size = 1)
    (i c : Nat) (u : Option Addr) (xs : List Value) (hxl : xs.length = i) (hr : Rd w (.slice u i c) xs) (k : Nat) (h0 : 0 < k) (hgc : c < i + k) (hbytes : (i + k) * bytes ≤ 140737488355328) (h63 : i + k ≤ 140737488355328) :
    ∃ cap cur w', (Builtin.append_ #[t, tn] ty #[.slice u i c, .int kq k]).run P w = .ok (.slice (some ⟨w.heap.size, 0, none⟩) (i + k) cap) w' ∧ w'.heap[w.heap.size]? = some (.cells (cur : List Value).toArray e (0, 0)) ∧ cur.length = cap ∧ i + k ≤ cap ∧ cap ≤ maxLen ∧
      cur.take i = xs ∧ Kp w w' nob := by
  obtain ⟨i0, hi, hzz⟩ := Option.map_eq_some_iff.1 hinfo
  simp only [Prod.mk.injEq] at hzz
  obtain ⟨hz, hsize, hby⟩ := hzz
  have hold : (Builtin.firstCells i0.size i (.slice u i c)).run P w.drew = .ok xs.toArray w.drew := by
    rw [hsize]
    obtain ⟨A, c', h1, _, _, hcell⟩ := hr
    injection h1 with hA _ _
    subst hA
    cases u with
    | none =>
      have h0' : xs.length = 0 := by
        rcases Nat.eq_zero_or_pos xs.length with h | h
        · exact h
        · obtain ⟨b, off, h', _⟩ := hcell h
          cases h'
      obtain rfl := List.eq_nil_of_length_eq_zero h0'
      simp at hxl
      subst hxl
      exact run_firstCells_none w.drew 1 0 0 c
    | some a => exact run_firstCells_some w.drew 1 i a i c xs (by omega) (fun j v hj => by
        have hlt : j < xs.length := (List.getElem?_eq_some_iff.1 hj).1
        obtain ⟨b, off, h, hc⟩ := hcell (by omega)
        injection h with h
        subst h
        rw [add_plain]
        exact hc j v hj)
  have h := Lib.run_append_grow_zeros w t tn ty e i0 z kq kn ht htn hi hz u i c xs hold k h0 (by omega) hgc (by omega) (by rw [hby]; have := Nat.mul_le_mul_right bytes (show k ≤ i + k by omega); omega) (by rw [hby]; exact growslice_fits hgc hbytes)
  refine ⟨_, (xs.toArray ++ Builtin.zeroCells z.cells k ++ Builtin.zeroCells z.cells (grownCap w (i + k) c e - (i + k))).toList, _, h, heap_alloc_new w.drew _, ?_, grownCap_ge _ _ _ _, grownCap_le_maxLen _ _ _ _ (by simp only [maxLen]; omega), ?_, (Kp.refl w nob).drew.alloc _⟩
  · have := grownCap_ge w (i + k) c e
    simp only [Array.length_toList, Array.size_append, List.size_toArray, size_zeroCells, hzs, hxl]
    omega
  · simp only [Array.toList_append, List.append_assoc]
    rw [← hxl]
    exact List.take_left
end
/-- A row's cells behind stores from place o on: the same number; ahead of o as they were. -/
theorem heap_setCells (g : Nat) (t : TypeId) : ∀ (vs : List Value) (o : Nat) (w : World) (cur : List Value), w.heap[g]? = some (.cells cur.toArray t (0, 0)) →
    ∃ cur' : List Value, (w.setCells g o vs).heap[g]? = some (.cells cur'.toArray t (0, 0)) ∧ cur'.length = cur.length ∧ cur'.take o = cur.take o ∧ Kp w (w.setCells g o vs) (fun k => k = g)
  | [], o, w, cur, h => ⟨cur, h, rfl, rfl, Kp.refl _ _⟩
  | v :: vs, o, w, cur, h => by
    have h1 : (w.setCell ⟨g, o, none⟩ v).heap[g]? = some (.cells (cur.set o v).toArray t (0, 0)) := by
      simp [World.setCell, Array.getElem?_modify, h]
    obtain ⟨cur', h2, h3, h4, h5⟩ := heap_setCells g t vs (o + 1) (w.setCell ⟨g, o, none⟩ v) (cur.set o v) h1
    refine ⟨cur', h2, by simpa using h3, ?_, ((Kp.refl w (fun k => k = g)).setCell ⟨g, o, none⟩ v (fun _ => rfl)).trans h5 (fun _ _ e => e)⟩
    have h6 : (cur'.take (o + 1)).take o = ((cur.set o v).take (o + 1)).take o := by rw [h4]
    rw [List.take_take, List.take_take, Nat.min_eq_left (by omega)] at h6
    rw [h6, List.take_set_of_le (Nat.le_refl _)]
theorem own_row {w : World} {base e n g c : Nat} {a : Nat} {ps : List Value} (ho : w.ownsRow base e 1 (.slice (some ⟨g, a, none⟩) n c) n ps) :
    a = 0 ∧ ∃ cur : List Value, w.heap[g]? = some (.cells cur.toArray e (0, 0)) ∧ cur.length = c ∧ cur.take n = ps ∧ base ≤ g ∧ c ≤ maxLen ∧ n ≤ c ∧ ps.length = n ∧ ∀ j p, ps[j]? = some p → w.cell? ⟨g, j, none⟩ = some p := by
  have hl : ps.length = n := by simpa using ho.1
  rcases ho.2 with ⟨h0, _⟩ | ⟨g', cap, cur, h0, h3, h4, h5, h6, h7, h8⟩
  · cases h0
  · injection h0 with hA _ hc
    injection hA with hA
    injection hA with hA hA2
    subst hA; subst hA2; subst hc
    refine ⟨rfl, cur.toList, by simpa using h4, by simpa using h7, by simpa using h8, h3, h6, h5, hl, fun j p hp => ?_⟩
    have := ho.cells (g := g) rfl j p hp
    rwa [add_plain, Nat.zero_add] at this
theorem own_mk {w : World} {base e n g c : Nat} {cur : List Value} {ps : List Value} (h1 : w.heap[g]? = some (.cells cur.toArray e (0, 0))) (h2 : cur.length = c) (h3 : cur.take n = ps) (h4 : base ≤ g) (h5 : c ≤ maxLen) (h6 : n ≤ c) (h7 : ps.length = n) :
    w.ownsRow base e 1 (.slice (some ⟨g, 0, none⟩) n c) n ps := ⟨by simpa using h7, .inr ⟨g, c, _, rfl, h4, h1, h6, h5, by simpa using h2, by simpa using h3⟩⟩
/-- The first of a row of the call's own are such a row. -/
theorem own_take {w : World} {base e g n c i : Nat} {ps : List Value} (ho : w.ownsRow base e 1 (.slice (some ⟨g, 0, none⟩) n c) n ps) (hi : i ≤ n) : w.ownsRow base e 1 (.slice (some ⟨g, 0, none⟩) i c) i (ps.take i) := by
  obtain ⟨_, cur, h1, h2, h3, h4, h5, h6, h7, _⟩ := own_row ho
  refine own_mk h1 h2 ?_ h4 h5 (by omega) (by rw [List.length_take]; omega)
  rw [← h3, List.take_take, Nat.min_eq_left hi]
theorem splice_take {α : Type} (cur cs : List α) (off : Nat) (h : off ≤ cur.length) : (splice cur off cs).take (off + cs.length) = cur.take off ++ cs := by
  unfold splice
  have hl : (cur.take off).length = off := by rw [List.length_take]; omega
  rw [← List.append_assoc, List.take_append_of_le_length (by rw [List.length_append, hl]; omega), List.take_of_length_le (by rw [List.length_append, hl]; omega)]
theorem splice_take_lt {α : Type} (cur cs : List α) (off i : Nat) (h : off ≤ cur.length) (hi : i ≤ off) : (splice cur off cs).take i = cur.take i := by
  unfold splice
  have hl : (cur.take off).length = off := by rw [List.length_take]; omega
  rw [List.take_append_of_le_length (by omega), List.take_take, Nat.min_eq_left hi]
theorem splice_drop {α : Type} (cur cs : List α) (off : Nat) (h : off ≤ cur.length) : (splice cur off cs).drop off = cs ++ cur.drop (off + cs.length) := by
  unfold splice
  have hl : (cur.take off).length = off := by rw [List.length_take]; omega
  conv => lhs; arg 1; rw [← hl]
  exact List.drop_left
/-- Two splices: what stands from j on goes to i + |v|, then v goes to i. -/
theorem splice_two {α : Type} (cur ps v : List α) (i j n : Nat) (hn : cur.take n = ps) (hnl : n ≤ cur.length) (hij : i ≤ j) (hjn : j ≤ n) (hfit : i + v.length + (n - j) ≤ cur.length) :
    (splice (splice cur (i + v.length) (ps.drop j)) i v).take (i + v.length + (n - j)) = ps.take i ++ v ++ ps.drop j := by
  have hpl : ps.length = n := by rw [← hn, List.length_take]; omega
  have hdl : (ps.drop j).length = n - j := by rw [List.length_drop, hpl]
  have hs1 : (splice cur (i + v.length) (ps.drop j)).length = cur.length := length_splice _ _ _ (by rw [hdl]; omega)
  have e0 : (splice cur (i + v.length) (ps.drop j)).take i = ps.take i := by
    rw [splice_take_lt _ _ _ _ (by omega) (by omega), ← hn, List.take_take, Nat.min_eq_left (by omega)]
  have e1 := splice_drop cur (ps.drop j) (i + v.length) (by omega)
  have hl : (ps.take i).length = i := by rw [List.length_take]; omega
  have e2 : splice (splice cur (i + v.length) (ps.drop j)) i v = (ps.take i ++ v ++ ps.drop j) ++ cur.drop (i + v.length + (ps.drop j).length) := by
    conv => lhs; unfold splice
    have e1' := e1
    have e0' := e0
    unfold splice at e1' e0'
    rw [e0', e1']
    simp
  rw [e2, List.take_append_of_le_length (by simp only [List.length_append, hl, hdl]; omega), List.take_of_length_le (by simp only [List.length_append, hl, hdl]; omega)]
/-- Into a new row: v goes to i, then what stood from j on goes behind it. -/
theorem splice_new {α : Type} (cur ps v : List α) (i j n : Nat) (hn : cur.take i = ps.take i) (hpl : ps.length = n) (hij : i ≤ j) (hjn : j ≤ n) (hfit : i + v.length + (n - j) ≤ cur.length) :
    (splice (splice cur i v) (i + v.length) (ps.drop j)).take (i + v.length + (n - j)) = ps.take i ++ v ++ ps.drop j := by
  have hdl : (ps.drop j).length = n - j := by rw [List.length_drop, hpl]
  have hs1 : (splice cur i v).length = cur.length := length_splice _ _ _ (by omega)
  have e1 := splice_take (splice cur i v) (ps.drop j) (i + v.length) (by omega)
  rw [hdl] at e1
  rw [e1, splice_take _ _ _ (by omega), hn]
end Go.Proofs.Ytciandflgmmjaaa
