/- What cutting a list of pieces at a place gives: plain lists. -/
import Derived.Test.YtciandflgmmjaaaWb
namespace Go.Proofs.Ytciandflgmmjaaa
set_option linter.unusedVariables false
set_option linter.unusedSimpArgs false
variable {α β : Type}
def cutP : List (List α) → Nat → List (List α)
  | [], _ => []
  | p :: r, a => if a = 0 then p :: r else if a < p.length then p.take a :: p.drop a :: r else p :: cutP r (a - p.length)
def cutI : List (List α) → Nat → Nat
  | [], _ => 0
  | p :: r, a => if a = 0 then 0 else if a < p.length then 1 else 1 + cutI r (a - p.length)
/-- A list of pieces behind a replacement. -/
def repP (L : List (List α)) (a b : Nat) (xs : List α) : List (List α) :=
  let L1 := cutP L a
  let i := cutI L a
  let L2 := cutP L1 b
  let j := cutI L1 b
  let L3 := L2.take i ++ L2.drop j
  if xs = [] then L3 else L3.take i ++ xs :: L3.drop i
def full (L : List (List α)) : Prop := ∀ p ∈ L, p ≠ []
theorem cutP_flat : ∀ (L : List (List α)) (a : Nat), (cutP L a).flatten = L.flatten
  | [], _ => rfl
  | p :: r, a => by
    unfold cutP
    split
    · rfl
    · split
      · simp [← List.append_assoc]
      · simp [cutP_flat r]
theorem cutP_len : ∀ (L : List (List α)) (a : Nat), L.length ≤ (cutP L a).length ∧ (cutP L a).length ≤ L.length + 1
  | [], _ => by simp [cutP]
  | p :: r, a => by
    unfold cutP
    have := cutP_len r (a - p.length)
    split
    · simp
    · split <;> simp <;> omega
theorem cutI_le : ∀ (L : List (List α)) (a : Nat), cutI L a ≤ (cutP L a).length
  | [], _ => by simp [cutI, cutP]
  | p :: r, a => by
    unfold cutI cutP
    have := cutI_le r (a - p.length)
    split
    · simp
    · split <;> simp <;> omega
theorem cutP_full : ∀ (L : List (List α)) (a : Nat), full L → full (cutP L a)
  | [], _, h => h
  | p :: r, a, h => by
    unfold cutP
    split
    · exact h
    · split
      · rename_i h0 h1
        intro q hq
        simp only [List.mem_cons] at hq
        rcases hq with rfl | rfl | hq
        · intro e
          have := congrArg List.length e
          simp at this
          rcases this with e | e
          · exact h0 e
          · rw [e] at h1; simp at h1
        · intro e
          have := congrArg List.length e
          simp at this
          omega
        · exact h q (by simp [hq])
      · intro q hq
        rcases List.mem_cons.1 hq with rfl | hq
        · exact h _ (by simp)
        · exact cutP_full r _ (fun q hq => h q (by simp [hq])) q hq
/-- What stands ahead of the cut. -/
theorem cut_take : ∀ (L : List (List α)) (a : Nat), a ≤ lens L → ((cutP L a).take (cutI L a)).flatten = L.flatten.take a
  | [], a, h => by simp [cutI, cutP]
  | p :: r, a, h => by
    unfold cutI cutP
    rw [lens_cons] at h
    split
    · rename_i h0; simp [h0]
    · split
      · rename_i h0 h1
        simp only [List.take_succ_cons, List.take_zero, List.flatten_cons, List.flatten_nil, List.append_nil]
        rw [List.take_append_of_le_length (by omega)]
      · rename_i h0 h1
        rw [Nat.add_comm 1, List.take_succ_cons, List.flatten_cons, cut_take r _ (by omega), List.flatten_cons, List.take_append, List.take_of_length_le (l := p) (by omega)]
theorem cut_drop (L : List (List α)) (a : Nat) (h : a ≤ lens L) : ((cutP L a).drop (cutI L a)).flatten = L.flatten.drop a := by
  have h1 : ((cutP L a).take (cutI L a)).flatten ++ ((cutP L a).drop (cutI L a)).flatten = L.flatten := by
    rw [← List.flatten_append, List.take_append_drop, cutP_flat]
  rw [cut_take L a h] at h1
  have h2 := List.take_append_drop a L.flatten
  exact List.append_cancel_left (h1.trans h2.symm)
/-- A cut further on leaves what stands ahead of the first. -/
theorem cut_cut : ∀ (M : List (List α)) (i b : Nat), i ≤ M.length → lens (M.take i) ≤ b → full M → (cutP M b).take i = M.take i ∧ i ≤ cutI M b
  | [], i, b, hi, hb, hf => by simp at hi; subst hi; simp
  | p :: r, 0, b, hi, hb, hf => by simp
  | p :: r, i + 1, b, hi, hb, hf => by
    simp only [List.take_succ_cons, lens_cons] at hb
    have hp : 0 < p.length := by
      rcases Nat.eq_zero_or_pos p.length with h | h
      · exact absurd (List.eq_nil_of_length_eq_zero h) (hf p (by simp))
      · exact h
    unfold cutP cutI
    rw [if_neg (by omega), if_neg (by omega), if_neg (by omega), if_neg (by omega)]
    have := cut_cut r i (b - p.length) (by simpa using hi) (by omega) (fun q hq => hf q (by simp [hq]))
    exact ⟨by simp [this.1], by omega⟩
theorem lens_flat (L : List (List α)) : lens L = L.flatten.length := rfl
theorem rep_parts (L : List (List α)) (a b : Nat) (hab : a ≤ b) (hb : b ≤ lens L) (hf : full L) :
    let L1 := cutP L a
    let L2 := cutP L1 b
    full L2 ∧ L2.length ≤ L.length + 2 ∧ cutI L a ≤ cutI L1 b ∧ cutI L1 b ≤ L2.length ∧ (L2.take (cutI L a)).flatten = L.flatten.take a ∧ (L2.drop (cutI L1 b)).flatten = L.flatten.drop b := by
  intro L1 L2
  have hf1 : full L1 := cutP_full L a hf
  have hfl : L1.flatten = L.flatten := cutP_flat L a
  have hl1 : lens L1 = lens L := by rw [lens_flat, lens_flat, hfl]
  have ht := cut_take L a (by omega)
  have hc := cut_cut L1 (cutI L a) b (cutI_le L a) (by rw [lens_flat, ht, List.length_take]; omega) hf1
  have h1 := cutP_len L a
  have h2 := cutP_len L1 b
  refine ⟨cutP_full L1 b hf1, by show (cutP L1 b).length ≤ _; have : L1.length ≤ L.length + 1 := h1.2; omega, hc.2, cutI_le L1 b, ?_, ?_⟩
  · show ((cutP L1 b).take _).flatten = _
    rw [hc.1]; exact ht
  · rw [← hfl]; exact cut_drop L1 b (by omega)
theorem mem_repP {L : List (List α)} {a b : Nat} {xs : List α} {Q : List α → Prop} (h : ∀ p ∈ cutP (cutP L a) b, Q p) (hx : xs ≠ [] → Q xs) : ∀ p ∈ repP L a b xs, Q p := by
  intro p hp
  unfold repP at hp
  simp only [] at hp
  have h3 : ∀ p ∈ (cutP (cutP L a) b).take (cutI L a) ++ (cutP (cutP L a) b).drop (cutI (cutP L a) b), Q p := fun p hp => by
    rcases List.mem_append.1 hp with hp | hp
    · exact h p (List.mem_of_mem_take hp)
    · exact h p (List.mem_of_mem_drop hp)
  split at hp
  · exact h3 p hp
  · rename_i hne
    rcases List.mem_append.1 hp with hp | hp
    · exact h3 p (List.mem_of_mem_take hp)
    · rcases List.mem_cons.1 hp with rfl | hp
      · exact hx hne
      · exact h3 p (List.mem_of_mem_drop hp)
theorem repP_full (L : List (List α)) (a b : Nat) (xs : List α) (hf : full L) : full (repP L a b xs) :=
  mem_repP (cutP_full _ b (cutP_full L a hf)) id
/-- The elements behind a replacement; how many pieces there are. -/
theorem repP_law (L : List (List α)) (a b : Nat) (xs : List α) (hab : a ≤ b) (hb : b ≤ lens L) (hf : full L) :
    (repP L a b xs).flatten = L.flatten.take a ++ xs ++ L.flatten.drop b ∧ (repP L a b xs).length ≤ L.length + 3 ∧ (repP L a b xs).length + (cutI (cutP L a) b - cutI L a) ≤ (cutP (cutP L a) b).length + 1 := by
  obtain ⟨h1, h2, h3, h4, h5, h6⟩ := rep_parts L a b hab hb hf
  have hi : cutI L a ≤ (cutP (cutP L a) b).length := by omega
  have hl : ((cutP (cutP L a) b).take (cutI L a)).length = cutI L a := by rw [List.length_take]; omega
  unfold repP
  simp only []
  have hflat : ((cutP (cutP L a) b).take (cutI L a) ++ (cutP (cutP L a) b).drop (cutI (cutP L a) b)).flatten = L.flatten.take a ++ L.flatten.drop b := by
    rw [List.flatten_append, h5, h6]
  have hlen : ((cutP (cutP L a) b).take (cutI L a) ++ (cutP (cutP L a) b).drop (cutI (cutP L a) b)).length = (cutP (cutP L a) b).length - (cutI (cutP L a) b - cutI L a) := by
    rw [List.length_append, hl, List.length_drop]; omega
  split
  · rename_i hx
    subst hx
    refine ⟨by rw [hflat]; simp, by omega, by omega⟩
  · have ht : ((cutP (cutP L a) b).take (cutI L a) ++ (cutP (cutP L a) b).drop (cutI (cutP L a) b)).take (cutI L a) = (cutP (cutP L a) b).take (cutI L a) := by
      rw [List.take_append_of_le_length (by omega), List.take_take, Nat.min_self]
    have hd : ((cutP (cutP L a) b).take (cutI L a) ++ (cutP (cutP L a) b).drop (cutI (cutP L a) b)).drop (cutI L a) = (cutP (cutP L a) b).drop (cutI (cutP L a) b) := by
      rw [List.drop_append, hl, Nat.sub_self, List.drop_of_length_le (by omega), List.nil_append, List.drop_zero]
    rw [ht, hd]
    refine ⟨by simp [h5, h6], ?_, ?_⟩
    · simp only [List.length_append, List.length_cons, hl, List.length_drop]; omega
    · simp only [List.length_append, List.length_cons, hl, List.length_drop]; omega
theorem lens_map (f : α → β) (L : List (List α)) : lens (L.map (List.map f)) = lens L := by
  unfold lens
  rw [← List.map_flatten, List.length_map]
theorem cutP_map (f : α → β) : ∀ (L : List (List α)) (a : Nat), cutP (L.map (List.map f)) a = (cutP L a).map (List.map f)
  | [], _ => rfl
  | p :: r, a => by
    simp only [List.map_cons, cutP, List.length_map]
    split
    · rfl
    · split
      · simp
      · simp [cutP_map f r]
theorem cutI_map (f : α → β) : ∀ (L : List (List α)) (a : Nat), cutI (L.map (List.map f)) a = cutI L a
  | [], _ => rfl
  | p :: r, a => by
    simp only [List.map_cons, cutI, List.length_map]
    rw [cutI_map f r]
theorem repP_map (f : α → β) (L : List (List α)) (a b : Nat) (xs : List α) : repP (L.map (List.map f)) a b (xs.map f) = (repP L a b xs).map (List.map f) := by
  unfold repP
  simp only [cutP_map, cutI_map, List.map_eq_nil_iff]
  split
  · simp
  · simp
theorem cut_idem : ∀ (L : List (List α)) (a : Nat), cutP (cutP L a) a = cutP L a
  | [], _ => rfl
  | p :: r, a => by
    by_cases h0 : a = 0
    · simp only [cutP, if_pos h0]
    · by_cases h1 : a < p.length
      · have e : cutP (p :: r) a = p.take a :: p.drop a :: r := by simp only [cutP, if_neg h0, if_pos h1]
        have hl : (p.take a).length = a := by rw [List.length_take]; omega
        rw [e]
        simp only [cutP, if_neg h0, hl, Nat.lt_irrefl, if_false, Nat.sub_self, if_true]
      · have e : cutP (p :: r) a = p :: cutP r (a - p.length) := by simp only [cutP, if_neg h0, if_neg h1]
        rw [e]
        simp only [cutP, if_neg h0, if_neg h1]
        rw [cut_idem r]
/-- Two pieces more at most. -/
theorem repP_few (L : List (List α)) (a b : Nat) (xs : List α) (hab : a ≤ b) (hb : b ≤ lens L) (hf : full L) : (repP L a b xs).length ≤ L.length + 2 := by
  obtain ⟨_, _, h3⟩ := repP_law L a b xs hab hb hf
  obtain ⟨h1, h2, h4, h5, h6, h7⟩ := rep_parts L a b hab hb hf
  have hl := cutP_len L a
  have hl2 := cutP_len (cutP L a) b
  rcases Nat.lt_or_eq_of_le hab with hlt | rfl
  · have : cutI L a ≠ cutI (cutP L a) b := fun e => by
      have e1 : (cutP (cutP L a) b).flatten.length = L.flatten.length := by rw [cutP_flat, cutP_flat]
      have e2 : ((cutP (cutP L a) b).take (cutI L a)).flatten ++ ((cutP (cutP L a) b).drop (cutI (cutP L a) b)).flatten = (cutP (cutP L a) b).flatten := by
        rw [← e, ← List.flatten_append, List.take_append_drop]
      rw [h6, h7] at e2
      have e3 := congrArg List.length e2
      rw [e1, List.length_append, List.length_take, List.length_drop] at e3
      have : L.flatten.length = lens L := rfl
      omega
    omega
  · rw [cut_idem] at h3
    omega
theorem full_len : ∀ (L : List (List α)), full L → L.length ≤ lens L ∧ (L = [] ↔ lens L = 0)
  | [], _ => by simp [lens]
  | p :: r, h => by
    have hp : 0 < p.length := by
      rcases Nat.eq_zero_or_pos p.length with e | e
      · exact absurd (List.eq_nil_of_length_eq_zero e) (h p (by simp))
      · exact e
    have := (full_len r (fun q hq => h q (by simp [hq]))).1
    rw [lens_cons]
    constructor
    · simp only [List.length_cons]; omega
    · constructor
      · intro e; cases e
      · intro e; omega
theorem lens_repP (L : List (List α)) (a b : Nat) (xs : List α) (hab : a ≤ b) (hb : b ≤ lens L) (hf : full L) : lens (repP L a b xs) = lens L - (b - a) + xs.length := by
  rw [lens_flat, (repP_law L a b xs hab hb hf).1, List.length_append, List.length_append, List.length_take, List.length_drop, ← lens_flat]
  omega
end Go.Proofs.Ytciandflgmmjaaa
