/- The table's cut. -/
import Derived.Test.YtciandflgmmjaaaBgB
import Derived.Test.YtciandflgmmjaaaWc
namespace Go.Proofs.Ytciandflgmmjaaa
set_option linter.unusedVariables false
set_option linter.unusedSimpArgs false
open Go.RowKit
theorem cutI_stepB (p : List Value) (r : List (List Value)) (a : Nat) (h0 : a ≠ 0) (h1 : ¬ a < p.length) : cutI (p :: r) a = 1 + cutI r (a - p.length) ∧ cutP (p :: r) a = p :: cutP r (a - p.length) := by
  constructor
  · simp only [cutI]
    rw [if_neg h0, if_neg h1]
  · simp only [cutP]
    rw [if_neg h0, if_neg h1]
def cutAtB (w : World) (base t : Nat) (v : Value) (L : List (List Value)) (a : Nat) : Ending → World → Prop := tabToB w base t v (cutP L a) (.int .i64 (cutI L a))
set_option maxHeartbeats 2000000 in
theorem cut_okB (w : World) (base t : Nat) (v : Value) (L : List (List Value)) (at_ : Nat) (h : Tab w base 61 22 5 t v L) (ha : at_ ≤ 1000000) (hl : L.length ≤ 999999) (hL : lens L ≤ 1000000) (hb : base ≤ w.heap.size) :
    Calls Try.prog 31 #[.pointer (some ⟨t, 0, none⟩), .int .i64 at_] w (cutAtB w base t v L at_) := by
  have hc1 := h.cell1
  have htw : t < w.heap.size := block_lt_of_cell hc1
  have hrep : ∀ (k a : Nat) (p : List Value) (x y : Value), L[k]? = some p → a < p.length → 0 < a → Piece w base 5 x (p.take a) → Piece w base 5 y (p.drop a) → x.oneCell' = true → y.oneCell' = true →
      Calls Try.prog 43 #[v, .int .i64 k, .int .i64 ((k : Int) + 1), .slice (some ⟨w.heap.size, 0, none⟩) 2 2] ((w.alloc (.cells #[x, y] 22)).drew) (midToB w base t v (L.take k ++ p.take a :: p.drop a :: L.drop (k + 1))) := by
    intro k a p x y hk hap ha0 hx hy h1x h1y
    have hkl : k < L.length := (List.getElem?_eq_some_iff.1 hk).1
    obtain ⟨ps, ho, hp⟩ := h.own
    have hlen := hp.length
    have hk2 : Kp w ((w.alloc (.cells #[x, y] 22)).drew) nob := ((Kp.refl w nob).alloc _).drew
    have := replace_okB ((w.alloc (.cells #[x, y] 22)).drew) base v ps k w.heap.size x y (by rw [hlen]; exact own_kp ho hk2 (fun _ _ e => e)) (heap_alloc_new _ _) h1x h1y (all2_oneB hp)
      (fun e => by obtain ⟨_, cur, hc⟩ := own_ty ho _ e; have := (Array.getElem?_eq_some_iff.1 hc).1; omega) (by have := hk2.size; omega) (by omega) (by omega)
    refine this.mono fun e w2 hr => mid_of_rowB w _ base t v L _ _ h hk2 (fun w3 hk3 => ?_) e w2 hr
    have hnb : ∀ b cur fr, ((w.alloc (.cells #[x, y] 22)).drew).heap[b]? = some (.cells cur 5 fr) → ¬ (v.ownBlock = some b) := fun b cur fr hh e => by
      obtain ⟨_, cur', hc⟩ := own_ty (own_kp ho hk2 (fun _ _ e => e)) b e
      exact ty_ne hh hc (by decide) rfl
    have hkeep : ∀ u xs, Piece w base 5 u xs → Piece w3 base 5 u xs := fun _ _ hp => (hp.kp hk2 (fun _ _ _ _ e => e)).kp hk3 hnb
    have hall : All2 (Piece w3 base 5) ps L := hp.imp hkeep
    exact All2.append (hall.take k) ⟨hkeep _ _ hx, hkeep _ _ hy, hall.drop (k + 1)⟩
  have HREP := Lib.hid hrep
  have H := Lib.hid h
  obtain ⟨ps, ho, _⟩ := h.own
  obtain ⟨A, c, rfl, hnc, hcm⟩ := own_slice ho
  clear h ho hrep
  go_enter Try.func31, Try.ntmps31
  go_wp2
  go_loop [1, 5, 6, 12] (fun a _ _ i => ∃ k a' : Nat, k ≤ L.length ∧ a' ≤ at_ ∧ i = .int .i64 k ∧ a = .int .i64 a' ∧ Hid (cutI L at_ = k + cutI (L.drop k) a' ∧ cutP L at_ = L.take k ++ cutP (L.drop k) a')) (fun _ _ _ i => L.length - (intOf i).toNat)
  case atStart => exact ⟨0, at_, Nat.zero_le _, Nat.le_refl _, rfl, rfl, by constructor <;> simp⟩
  case round =>
    obtain ⟨k, a', hk, haa, rfl, rfl, hinv⟩ := hrel
    by_cases hlt : k < L.length
    · have hp := H.out.piece (List.getElem?_eq_getElem hlt)
      obtain ⟨g, u, rfl, hcell, hpc⟩ := hp
      obtain ⟨A', c', rfl⟩ := hpc.rd.shape
      have HPC := Lib.hid hpc
      have hpl : L[k].length ≤ 1000000 := by
        have h1 := lens_take_succ L k _ (List.getElem?_eq_getElem hlt)
        have h2 := lens_take_le L (k + 1)
        omega
      have hdk : L.drop k = L[k] :: L.drop (k + 1) := List.drop_eq_getElem_cons hlt
      by_cases h0 : a' = 0
      · subst h0
        clear hpc
        have hfin : cutAtB w base t (.slice (some ⟨g, 0, none⟩) L.length c) L at_ (.returned (.int .i64 k)) w := by
          have hinv := hinv.out
          rw [hdk] at hinv
          have e1 : cutI L at_ = k := by rw [hinv.1]; simp [cutI]
          have e2 : cutP L at_ = L := by rw [hinv.2]; simp [cutP]
          unfold cutAtB
          rw [e1, e2]
          exact ⟨rfl, _, H.out, Kp.refl _ _, .inl rfl⟩
        have HF := Lib.hid hfin
        clear hfin hdk
        go_wp2
        go_ret
        exact HF.out
      · have h0' : 0 < a' := by omega
        have h0b : ((a' : Int) == 0) = false := by simp; omega
        by_cases hap : a' < L[k].length
        · obtain ⟨pb, po, hA', hpcell⟩ : ∃ pb po, A' = some ⟨pb, po, none⟩ ∧ True := by
            obtain ⟨_, _, _, hat⟩ := hpc.rd.at_
            obtain ⟨pb, po, _, he, _⟩ := hat 0 (by omega)
            exact ⟨pb, po, he, trivial⟩
          subst hA'
          have hcc : L[k].length ≤ c' ∧ c' ≤ 9223372036854775807 := by
            obtain ⟨_, h1, h2, _⟩ := hpc.rd.at_
            exact ⟨h1, by simpa [maxLen] using h2⟩
          obtain ⟨hcc1, hcc2⟩ := hcc
          have hx : Piece w base 5 (.slice (some ⟨pb, po, none⟩) a' a') (L[k].take a') := ⟨hpc.rd.take_ (by omega) (Nat.le_refl _) (by omega), fun e => by
            have := congrArg List.length e
            rw [List.length_take, List.length_nil] at this
            omega, fun b hb => hpc.ty b (by simpa [Value.ownBlock] using hb)⟩
          have hy : Piece w base 5 (.slice (some ⟨pb, po + a', none⟩) (L[k].length - a') (c' - a')) (L[k].drop a') := by
            have h1 := hpc.rd.drop_ (i := a') (by omega)
            rw [if_neg (show ¬ c' = a' by omega)] at h1
            simp only [Option.map_some, add_plain] at h1
            exact ⟨h1, fun e => by
              have := congrArg List.length e
              rw [List.length_drop, List.length_nil] at this
              omega, fun b hb => hpc.ty b (by simpa [Value.ownBlock] using hb)⟩
          have hcall := HREP.out k a' L[k] _ _ (List.getElem?_eq_getElem hlt) hap h0' hx hy rfl rfl
          have hend : ∀ e w2, midToB w base t (.slice (some ⟨g, 0, none⟩) L.length c) (L.take k ++ L[k].take a' :: L[k].drop a' :: L.drop (k + 1)) e w2 →
              ∃ A n d, e = .returned (.slice A n d) ∧ w2.cell? ⟨t, 1, none⟩ = some (.slice (some ⟨g, 0, none⟩) L.length c) ∧ w2.frozen? ⟨t, 1, none⟩ = false ∧ Hid (cutAtB w base t (.slice (some ⟨g, 0, none⟩) L.length c) L at_ (.returned (.int .i64 ((k : Int) + 1))) (w2.setCell ⟨t, 1, none⟩ (.slice A n d))) := by
            rintro e w2 ⟨A, n, d, rfl, h1, h2, h3⟩
            refine ⟨A, n, d, rfl, h1, h2, ?_⟩
            have hinv := hinv.out
            rw [hdk] at hinv
            have e1 : cutI L at_ = k + 1 := by rw [hinv.1]; simp only [cutI, if_neg h0, if_pos hap]
            have e2 : cutP L at_ = L.take k ++ L[k].take a' :: L[k].drop a' :: L.drop (k + 1) := by rw [hinv.2]; simp only [cutP, if_neg h0, if_pos hap]
            show cutAtB _ _ _ _ _ _ _ _
            unfold cutAtB
            rw [e1, e2, show ((k + 1 : Nat) : Int) = (k : Int) + 1 from by omega]
            exact ⟨rfl, h3.2⟩
          have HCALL := Lib.hid hcall
          have HEND := Lib.hid hend
          have hca : ¬ (c' = a') := by omega
          have hac : a' ≤ c' := by omega
          clear hcall hend hx hy hpc hdk hpcell
          go_wp2
          go_region_with (go_at_call 43; refine HCALL.out.mono ?_; intro e w2 hm; obtain ⟨A2, n2, d2, rfl, hc2, hf2, hfin⟩ := HEND.out e w2 hm; clear hm)
          all_goals
            go_wp2
            go_ret
            exact hfin.out
        · have hle : L[k].length ≤ a' := by omega
          have hinv' : Hid (cutI L at_ = (k + 1 : Nat) + cutI (L.drop (k + 1)) (a' - L[k].length) ∧ cutP L at_ = L.take (k + 1) ++ cutP (L.drop (k + 1)) (a' - L[k].length)) := by
            have hinv := hinv.out
            rw [hdk] at hinv
            obtain ⟨e1, e2⟩ := cutI_stepB L[k] (L.drop (k + 1)) a' h0 hap
            rw [e1, e2] at hinv
            refine ⟨by rw [hinv.1]; omega, ?_⟩
            rw [hinv.2, List.take_succ_eq_append_getElem hlt, List.append_assoc]
            rfl
          clear hpc hdk
          go_wp2
          go_round
          case rel => exact ⟨k + 1, a' - L[k].length, by omega, by omega, by go_num, by go_num, hinv'⟩
          case measure => simp [intOf]; omega
    · have hkl : k = L.length := by omega
      subst hkl
      have hfin : cutAtB w base t (.slice A L.length c) L at_ (.returned (.int .i64 L.length)) w := by
        have hinv := hinv.out
        have e1 : cutI L at_ = L.length := by rw [hinv.1]; simp [cutI]
        have e2 : cutP L at_ = L := by rw [hinv.2]; simp [cutP]
        unfold cutAtB
        rw [e1, e2]
        exact ⟨rfl, _, H.out, Kp.refl _ _, .inl rfl⟩
      have HF := Lib.hid hfin
      clear hfin
      go_wp2
      go_ret
      exact HF.out
end Go.Proofs.Ytciandflgmmjaaa
