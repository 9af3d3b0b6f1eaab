/- PieceKnown: pieces, and tables that are none: a closed statement. -/
import Derived.Test.YtciandflgmmjaaaBq
import Derived.Deep.DeepFit
import Derived.LoopN
import Derived.Deep.CutBlock
namespace Go.Proofs.Ytciandflgmmjaaa
set_option linter.unusedVariables false
set_option linter.unusedSimpArgs false
open Go.RowKit Go.Shelf
attribute [local go_sem] Oper.semAt_some
set_option maxRecDepth 100000 in
set_option maxHeartbeats 8000000 in
theorem known_ok (w : World) : Calls Try.prog 9 #[] w (yes w) := by
  have kc := fun (w : World) (C : Array Value) (n c : Nat) => Lib.run_convert_bytes_const (P := Try.prog) w 22 5 C n c Try.underlying22 Try.underlying5
  obtain ⟨wa, hwa⟩ : ∃ wa, wa = w.alloc (.cells #[.bool false] 4) := ⟨_, rfl⟩
  have hka : Kp w wa nob := by rw [hwa]; exact (Kp.refl w nob).alloc _
  have hca : wa.cell? ⟨w.heap.size, 0, none⟩ = some (.bool false) := by rw [hwa]; simp [go_sem]
  have hsa : wa.heap.size = w.heap.size + 1 := by rw [hwa]; simp
  refine (callsIn_wide (n := 6)).1 ?_
  refine callsIn_of_wp_marks Try.func9 rfl trivial ?_ rfl
  simp only [Try.ntmps9, List.size_toArray, List.length_cons, List.length_nil, Nat.reduceAdd, Nat.reduceSub, Array.replicate_succ, Array.replicate_zero, List.push_toArray, List.append_toArray, List.nil_append, List.cons_append]
  refine wpIn_wide.2 ?_
  have HSA := Lib.hid hsa
  clear hsa
  go_upto_region 1 with fail
  rw [← hwa]
  have HWA := Lib.hid hwa
  clear hwa
  go_wp2_with fail
  go_fit (newS_ok wa _ _ [97, 98, 99, 100, 101, 102] ((Kp.refl wa nob).alloc _) (fresh_rd wa _ 5 (6, 7) 6 6 rfl (by omega) (by omega)) (by simp))
  rintro e w1 ⟨t, rfl, hT1, _⟩
  rw [if_neg (by simp)] at hT1
  have HT1 := Lib.hid hT1
  clear hT1
  go_wp2_with fail
  go_fit (repS_nil wa w1 t [[97, 98, 99, 100, 101, 102]] HT1.out 3 3 (by decide) (by decide) (by omega) (by decide))
  rintro e w2 ⟨rfl, hT2, _⟩
  have hT2 : St wa w2 t [[97, 98, 99], [100, 101, 102]] := hT2
  have HT2 := Lib.hid hT2
  clear hT2 HT1
  go_wp2_with fail
  go_fit (tellsS_ok wa w2 t _ HT2.out (by decide) ⟨#[97, 98, 99, 100, 101, 102]⟩ (by decide) (by decide))
  rintro e w3 ⟨rfl, hk3⟩
  have HT3 := Lib.hid (HT2.out.step hk3)
  clear hk3 HT2
  go_wp2_with fail
  go_fit (repS_const wa w3 t _ HT3.out 3 3 [88] (by decide) (by decide) (by omega) (by decide) (1, 2) (by simp))
  rintro e w4 ⟨rfl, hT4, _⟩
  have hT4 : St wa w4 t [[97, 98, 99], [88], [100, 101, 102]] := hT4
  have HT4 := Lib.hid hT4
  clear hT4 HT3
  go_wp2_with fail
  go_fit (tellsS_ok wa w4 t _ HT4.out (by decide) ⟨#[97, 98, 99, 88, 100, 101, 102]⟩ (by decide) (by decide))
  rintro e w5 ⟨rfl, hk5⟩
  have HT5 := Lib.hid (HT4.out.step hk5)
  clear hk5 HT4
  go_wp2_with fail
  go_fit (repS_const wa w5 t _ HT5.out 3 4 [89, 90] (by decide) (by decide) (by omega) (by decide) (2, 3) (by simp))
  rintro e w6 ⟨rfl, hT6, _⟩
  have hT6 : St wa w6 t [[97, 98, 99], [89, 90], [100, 101, 102]] := hT6
  have HT6 := Lib.hid hT6
  clear hT6 HT5
  go_wp2_with fail
  go_fit (tellsS_ok wa w6 t _ HT6.out (by decide) ⟨#[97, 98, 99, 89, 90, 100, 101, 102]⟩ (by decide) (by decide))
  rintro e w7 ⟨rfl, hk7⟩
  have HT7 := Lib.hid (HT6.out.step hk7)
  clear hk7 HT6
  go_wp2_with fail
  go_fit (repS_nil wa w7 t _ HT7.out 2 6 (by decide) (by decide) (by omega) (by decide))
  rintro e w8 ⟨rfl, hT8, _⟩
  have hT8 : St wa w8 t [[97, 98], [101, 102]] := hT8
  have HT8 := Lib.hid hT8
  clear hT8 HT7
  go_wp2_with fail
  go_fit (tellsS_ok wa w8 t _ HT8.out (by decide) ⟨#[97, 98, 101, 102]⟩ (by decide) (by decide))
  rintro e w9 ⟨rfl, hk9⟩
  have HT9 := Lib.hid (HT8.out.step hk9)
  clear hk9 HT8
  go_wp2_with fail
  go_fit (repS_const wa w9 t _ HT9.out 0 0 [48] (by decide) (by decide) (by omega) (by decide) (1, 2) (by simp))
  rintro e w10 ⟨rfl, hT10, _⟩
  have hT10 : St wa w10 t [[48], [97, 98], [101, 102]] := hT10
  have HT10 := Lib.hid hT10
  clear hT10 HT9
  go_wp2_with fail
  go_fit (tellsS_ok wa w10 t _ HT10.out (by decide) ⟨#[48, 97, 98, 101, 102]⟩ (by decide) (by decide))
  rintro e w11 ⟨rfl, hk11⟩
  have HT11 := Lib.hid (HT10.out.step hk11)
  clear hk11 HT10
  go_wp2_with fail
  go_fit (repS_const wa w11 t _ HT11.out 5 5 [57] (by decide) (by decide) (by omega) (by decide) (1, 2) (by simp))
  rintro e w12 ⟨rfl, hT12, _⟩
  have hT12 : St wa w12 t [[48], [97, 98], [101, 102], [57]] := hT12
  have HT12 := Lib.hid hT12
  clear hT12 HT11
  go_wp2_with fail
  go_fit (tellsS_ok wa w12 t _ HT12.out (by decide) ⟨#[48, 97, 98, 101, 102, 57]⟩ (by decide) (by decide))
  rintro e w13 ⟨rfl, hk13⟩
  have HT13 := Lib.hid (HT12.out.step hk13)
  clear hk13 HT12
  go_wp2_with fail
  go_fit (repS_const wa w13 t _ HT13.out 0 6 [113] (by decide) (by decide) (by omega) (by decide) (1, 2) (by simp))
  rintro e w14 ⟨rfl, hT14, _⟩
  have hT14 : St wa w14 t [[113]] := hT14
  have HT14 := Lib.hid hT14
  clear hT14 HT13
  go_wp2_with fail
  go_fit (tellsS_ok wa w14 t _ HT14.out (by decide) ⟨#[113]⟩ (by decide) (by decide))
  rintro e w15 ⟨rfl, hk15⟩
  have HT15 := Lib.hid (HT14.out.step hk15)
  clear hk15 HT14
  go_wp2_with fail
  go_fit (errS_ok wa w15 t _ HT15.out 1 0 _ (by decide) (by decide))
  rintro e w16 ⟨rfl, rfl⟩
  go_wp2_with fail
  go_fit (errS_ok wa w15 t _ HT15.out (-1) 0 _ (by decide) (by decide))
  rintro e w16 ⟨rfl, rfl⟩
  go_wp2_with fail
  go_fit (errS_ok wa w15 t _ HT15.out 0 2 _ (by decide) (by decide))
  rintro e w16 ⟨rfl, rfl⟩
  go_wp2_with fail
  go_fit (errS_ok wa w15 t _ HT15.out 4611686018427387904 4611686018427387904 _ (by decide) (by decide))
  rintro e w16 ⟨rfl, rfl⟩
  go_wp2_with fail
  go_fit (tellsS_ok wa w15 t _ HT15.out (by decide) ⟨#[113]⟩ (by decide) (by decide))
  rintro e w16 ⟨rfl, hk16⟩
  have hkw : Kp wa w16 nob := HT15.out.kp.trans hk16 (fun _ _ e => e)
  clear hk16 HT15
  go_wp2_with fail
  go_fit (newS_ok wa w16 _ [] hkw (Rd.nil w16) (by simp))
  rintro e w17 ⟨s, rfl, hT17, _⟩
  have hT17 : St wa w17 s [] := hT17
  have HT17 := Lib.hid hT17
  clear hT17 hkw
  go_wp2_with fail
  go_fit (tellsS_ok wa w17 s _ HT17.out (by decide) ⟨#[]⟩ (by decide) (by decide))
  rintro e w18 ⟨rfl, hk18⟩
  have HT18 := Lib.hid (HT17.out.step hk18)
  clear hk18 HT17
  go_wp2_with fail
  go_fit (repS_const wa w18 s _ HT18.out 0 0 [97, 98] (by decide) (by decide) (by omega) (by decide) (2, 3) (by simp))
  rintro e w19 ⟨rfl, hT19, _⟩
  have hT19 : St wa w19 s [[97, 98]] := hT19
  have HT19 := Lib.hid hT19
  clear hT19 HT18
  go_wp2_with fail
  go_fit (tellsS_ok wa w19 s _ HT19.out (by decide) ⟨#[97, 98]⟩ (by decide) (by decide))
  rintro e w20 ⟨rfl, hk20⟩
  have HT20 := Lib.hid (HT19.out.step hk20)
  clear hk20 HT19
  go_wp2_with fail
  go_fit (snap1_ok wa w20 s _ HT20.out (by decide))
  rintro e w21 ⟨r, rfl, ⟨v, y, hV, hY, hO⟩, hk21, _⟩
  have hT21 : St wa w21 r [[97, 98]] := ⟨⟨y, hY.1, hY.2.2⟩, hY.2.1, hk21⟩
  have HT21 := Lib.hid hT21
  clear hV hY hO hk21 hT21 HT20
  go_wp2_with fail
  go_fit (tellsS_ok wa w21 r _ HT21.out (by decide) ⟨#[97, 98]⟩ (by decide) (by decide))
  rintro e w22 ⟨rfl, hk22⟩
  have HK22 := Lib.hid (HT21.out.kp.trans hk22 (fun _ _ e => e))
  clear hk22 HT21
  go_wp2_with fail
  have hef := eql_fn
  refine wp_loop_rounds 3 ?_
  rw [rounds_succ]
  go_wp2_with fail
  go_fit (slice_abs w22 none 0 0 (.inl rfl))
  rintro e w23 ⟨rfl, hk23⟩
  go_wp2_with fail
  go_fit (all_abs w23 none)
  rintro e w24 ⟨rfl, hw24⟩
  have hk24 : Kp w23 w24 nob := by rw [← hw24]; exact (Kp.refl w23 nob).alloc _
  obtain ⟨b0, hb0⟩ : ∃ b0, b0 = w23.heap.size := ⟨_, rfl⟩
  rw [← hb0]
  clear hw24 hb0
  go_wp2_with fail
  go_fit (all_abs w24 none)
  rintro e w25 ⟨rfl, hw25⟩
  have hk25 : Kp w24 w25 nob := by rw [← hw25]; exact (Kp.refl w24 nob).alloc _
  obtain ⟨b1, hb1⟩ : ∃ b1, b1 = w24.heap.size := ⟨_, rfl⟩
  have hbx1 : w25.cell? ⟨b1, 0, none⟩ = some (.pointer none) := by rw [← hw25, hb1]; simp [go_sem]
  rw [← hb1]
  have HBX1 := Lib.hid hbx1
  clear hw25 hb1 hbx1
  go_wp2_with fail
  refine range_none b1 none rfl rfl (.inl rfl) HBX1.out ?_
  intro D1 w26 hD1 hB1 hK1
  have hk26 : Kp w25 w26 nob := (Below.kp hB1).mono (fun k hk e => by omega)
  have hge1 : w.heap.size ≤ D1 := by have := HK22.out.size; have := hk23.size; have := hk24.size; have := hk25.size; have := HSA.out; omega
  have HK1 := Lib.hid hK1
  clear hD1 hB1 hK1
  go_wp2_with fail
  go_fit (rep_abs w26 none 0 0 _ (.inl rfl))
  rintro e w27 ⟨rfl, rfl⟩
  go_wp2_with fail
  go_fit (len_abs w26 none (.inl rfl))
  rintro e w27 ⟨rfl, rfl⟩
  go_wp2_with fail
  go_fit (pieces_abs w26 none (.inl rfl))
  rintro e w27 ⟨rfl, rfl⟩
  go_wp2_with fail
  go_fit (snap_abs w26 none (.inl rfl))
  rintro e w27 ⟨rfl, rfl⟩
  go_wp2_with fail
  -- the second round: a table that nobody has made
  have hkz : Kp w26 (w26.alloc (.cells #[.bool false, .slice none 0 0] 61)) nob := (Kp.refl w26 nob).alloc _
  have hcz : (w26.alloc (.cells #[.bool false, .slice none 0 0] 61)).cell? ⟨w26.heap.size, 0, none⟩ = some (.bool false) := by simp [go_sem]
  have HAZ : Hid (Abs (w26.alloc (.cells #[.bool false, .slice none 0 0] 61)) (some ⟨w26.heap.size, 0, none⟩)) := .inr ⟨_, rfl, hcz⟩
  have HKZ := Lib.hid ((((HK22.out.trans hk23 (fun _ _ e => e)).trans hk24 (fun _ _ e => e)).trans hk25 (fun _ _ e => e)).trans hk26 (fun _ _ e => e) |>.trans hkz (fun _ _ e => e))
  have HKD := Lib.hid (hkz.heap HK1.out id)
  clear hcz hkz hk23 hk24 hk25 hk26 HK1
  rw [rounds_succ]
  go_wp2_with fail
  go_fit (slice_abs _ _ 0 0 HAZ.out)
  rintro e w33 ⟨rfl, hk33⟩
  go_wp2_with fail
  go_fit (all_abs w33 _)
  rintro e w34 ⟨rfl, hw34⟩
  have hk34 : Kp w33 w34 nob := by rw [← hw34]; exact (Kp.refl w33 nob).alloc _
  obtain ⟨b2, hb2⟩ : ∃ b2, b2 = w33.heap.size := ⟨_, rfl⟩
  rw [← hb2]
  clear hw34 hb2
  go_wp2_with fail
  go_fit (all_abs w34 _)
  rintro e w35 ⟨rfl, hw35⟩
  have hk35 : Kp w34 w35 nob := by rw [← hw35]; exact (Kp.refl w34 nob).alloc _
  obtain ⟨b3, hb3⟩ : ∃ b3, b3 = w34.heap.size := ⟨_, rfl⟩
  have hbx3 : w35.cell? ⟨b3, 0, none⟩ = some (.pointer (some ⟨w26.heap.size, 0, none⟩)) := by rw [← hw35, hb3]; simp [go_sem]
  rw [← hb3]
  have HBX3 := Lib.hid hbx3
  clear hw35 hb3 hbx3
  have hk2 := (hk33.trans hk34 (fun _ _ e => e)).trans hk35 (fun _ _ e => e)
  have HAZ2 := Lib.hid (HAZ.out.kp hk2)
  have HKD2 := Lib.hid (hk2.heap HKD.out id)
  have HKZ2 := Lib.hid (HKZ.out.trans hk2 (fun _ _ e => e))
  clear hk33 hk34 hk35 hk2 HAZ HKD HKZ
  go_wp2_with fail
  refine range_none b3 _ rfl rfl HAZ2.out HBX3.out ?_
  intro D2 w36 hD2 hB2 hK2
  have hk36 : Kp w35 w36 nob := (Below.kp hB2).mono (fun k hk e => by omega)
  have hge2 : w.heap.size ≤ D2 := by have := HKZ2.out.size; have := HSA.out; omega
  have hne12 : D1 ≠ D2 := by have := (Array.getElem?_eq_some_iff.1 HKD2.out).1; omega
  have HK2 := Lib.hid hK2
  have HAZ3 := Lib.hid (HAZ2.out.kp hk36)
  have HKD3 := Lib.hid (hk36.heap HKD2.out id)
  have HKZ3 := Lib.hid (HKZ2.out.trans hk36 (fun _ _ e => e))
  clear hD2 hB2 hK2 hk36 HAZ2 HKD2 HKZ2
  go_wp2_with fail
  go_fit (rep_abs w36 _ 0 0 _ HAZ3.out)
  rintro e w37 ⟨rfl, rfl⟩
  go_wp2_with fail
  go_fit (len_abs w36 _ HAZ3.out)
  rintro e w37 ⟨rfl, rfl⟩
  go_wp2_with fail
  go_fit (pieces_abs w36 _ HAZ3.out)
  rintro e w37 ⟨rfl, rfl⟩
  go_wp2_with fail
  go_fit (snap_abs w36 _ HAZ3.out)
  rintro e w37 ⟨rfl, rfl⟩
  go_wp2_with fail
  rw [rounds_succ]
  have hkq : Kp w36 (w36.alloc (.cells #[.bool false, .slice none 0 0] 61)) nob := (Kp.refl w36 nob).alloc _
  have HK2q := Lib.hid (hkq.heap HK2.out id)
  have HKDq := Lib.hid (hkq.heap HKD3.out id)
  have HKZq := Lib.hid (HKZ3.out.trans hkq (fun _ _ e => e))
  clear hkq HAZ3
  go_wp2_with fail
  go_fit (works_ok _)
  rintro e w41 ⟨rfl, hk41⟩
  have HK2r := Lib.hid (hk41.heap HK2q.out id)
  have HKDr := Lib.hid (hk41.heap HKDq.out id)
  have hkr := HKZq.out.trans hk41 (fun _ _ e => e)
  have hc41 := hkr.cell hca id
  have hf41 : w41.frozen? ⟨w.heap.size, 0, none⟩ = false := hkr.frozen (by have := HSA.out; show w.heap.size < _; omega) (by rw [HWA.out]; exact (Boxed.new w 4 (.bool false)).frozen) id
  have HKR := Lib.hid hkr
  clear hk41 hkr
  go_wp2_with fail
  have hn1 : D1 ≠ w.heap.size := by
    intro e
    have h := HKDr.out
    rw [e] at h
    simp [World.cell?, h] at hc41
  have hn2 : D2 ≠ w.heap.size := by
    intro e
    have h := HK2r.out
    rw [e] at h
    simp [World.cell?, h] at hc41
  have q2 : (w41.setCell ⟨w.heap.size, 0, none⟩ (.bool true)).heap[D2]? = some (.deferred (some [])) := (heap_setCell_other w41 ⟨w.heap.size, 0, none⟩ D2 (.bool true) hn2).trans HK2r.out
  have q1 : ((w41.setCell ⟨w.heap.size, 0, none⟩ (.bool true)).putObj D2 (.deferred none)).heap[D1]? = some (.deferred (some [])) := (World.putObj_heap_other hne12).trans ((heap_setCell_other w41 ⟨w.heap.size, 0, none⟩ D1 (.bool true) hn1).trans HKDr.out)
  have hfin : Kp w (((w41.setCell ⟨w.heap.size, 0, none⟩ (.bool true)).putObj D2 (.deferred none)).putObj D1 (.deferred none)) nob :=
    (((hka.trans HKR.out (fun _ _ e => e)).setCell ⟨w.heap.size, 0, none⟩ _ (fun h => by simp at h)).grown (grownBy_putObj' _ D2 _) (fun k e hk => by cases e; omega)).grown (grownBy_putObj' _ D1 _) (fun k e hk => by cases e; omega)
  have hcr : (((w41.setCell ⟨w.heap.size, 0, none⟩ (.bool true)).putObj D2 (.deferred none)).putObj D1 (.deferred none)).cell? ⟨w.heap.size, 0, none⟩ = some (.bool true) := by
    have h0 : (w41.setCell ⟨w.heap.size, 0, none⟩ (.bool true)).cell? ⟨w.heap.size, 0, none⟩ = some (.bool true) := by
      first
        | exact World.cell?_setCell_same _ _ hc41
        | exact World.cell?_setCell_same _ _ _ hc41
        | exact World.cell?_setCell_same (h := hc41)
    have h1 : ((w41.setCell ⟨w.heap.size, 0, none⟩ (.bool true)).putObj D2 (.deferred none)).cell? ⟨w.heap.size, 0, none⟩ = some (.bool true) := (World.cell?_of_block (a := ⟨w.heap.size, 0, none⟩) (World.putObj_heap_other (k := w.heap.size) (Ne.symm hn2))).trans h0
    exact (World.cell?_of_block (a := ⟨w.heap.size, 0, none⟩) (World.putObj_heap_other (k := w.heap.size) (Ne.symm hn1))).trans h1
  refine ⟨by simp, .inl ⟨_, _, rfl, run_takeDeferred q2, ?_⟩⟩
  refine ⟨by simp, .inl ⟨_, _, rfl, run_takeDeferred q1, ?_⟩⟩
  exact ⟨.bool true, by simp [results, Try.results9, go_sem, hcr], rfl, hfin⟩
end Go.Proofs.Ytciandflgmmjaaa
