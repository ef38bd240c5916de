/-
  The walks of the laws FnExactSingleSoon and FnExactSingleBest.
-/
import Derived.Test.YtdmofgogpdodfaaOd
namespace Go.Proofs.Ytdmofgogpdodfaa
open Go.RowKit

set_option maxHeartbeats 1000000 in
theorem lawSoon_any (v : Value) (x : Sg) (w : World) (hv : SgN w v x) (ha : x.na ≤ 9223372036854775807) (hb : x.nb ≤ 9223372036854775807) :
    Calls Try.prog 13 #[v] w fun e w' => e = .returned (.bool true) ∧ Below w.heap.size w w' := by
  have hv0 := hv
  obtain ⟨va, vb, rfl, _, _⟩ := hv
  have HV := Lib.hid hv0
  clear hv0
  have hbb : ∀ a, Below w.heap.size w (w.alloc a) := fun a => (Below.refl _ _).alloc (Nat.le_refl _) _
  have HBB := Lib.hid hbb
  clear hbb
  go_enter Try.func13, Try.ntmps13
  go_wp2_with fail
  refine (szSingle_any _ x _ (HV.out.keep (HBB.out _)) (by omega) (by omega)).mono ?_
  rintro e w1 ⟨rfl, hb1⟩
  rw [World.size_alloc] at hb1
  obtain ⟨hc1, hf1⟩ := bcellB hb1
  have hz1 : w.heap.size + 1 ≤ w1.heap.size := by have := hb1.size; simpa using this
  have HB1 := Lib.hid hb1
  clear hb1
  by_cases hs : x.na + x.nb ≤ 1048576
  · rw [show szSg x = 1048576 - x.na - x.nb from if_pos hs]
    go_wp2_with fail
    refine (toSingle_any _ x _ (HV.out.keep ((HBB.out _).trans (HB1.out.mono (by omega)))) (by omega) (by omega)).mono ?_
    rintro e w2 ⟨u2, rfl, hF2, hb2⟩
    have HB2 := Lib.hid (HB1.out.trans (hb2.mono (by omega)))
    have hz2 := hb2.size
    clear hb2 hc1 hf1
    obtain ⟨hc2, hf2⟩ := bcellB HB2.out
    go_wp2_with fail
    refine (specSoon_any _ x _ hF2.reads (by omega) (by omega)).mono ?_
    clear hF2
    rintro e w3 ⟨rfl, hb3⟩
    have HB3 := Lib.hid (HB2.out.trans (hb3.mono (by omega)))
    have hz3 := hb3.size
    clear hb3 hc2 hf2
    obtain ⟨hc3, hf3⟩ := bcellB HB3.out
    go_wp2_with fail
    refine (toSingle_any _ x _ (HV.out.keep ((HBB.out _).trans (HB3.out.mono (by omega)))) (by omega) (by omega)).mono ?_
    rintro e w4 ⟨u4, rfl, hF4, hb4⟩
    have HB4 := Lib.hid (HB3.out.trans (hb4.mono (by omega)))
    have hz4 := hb4.size
    have HF4 := Lib.hid hF4
    obtain ⟨ga, ca4, gb, cb4, rfl, _⟩ := hF4
    clear hb4 hc3 hf3
    obtain ⟨hc4, hf4⟩ := bcellB HB4.out
    go_wp2_with fail
    refine (implSoon_any _ x _ (HF4.out.reads.keep ((Below.refl _ _).alloc (Nat.le_refl _) _)) (by omega) (by omega)).mono ?_
    rintro e w5 ⟨rfl, hb5⟩
    rw [World.size_alloc] at hb5
    have HX5 := Lib.hid hb5
    have hz5 : w4.heap.size + 1 ≤ w5.heap.size := by have := hb5.size; simpa using this
    have HB45 : Hid (Below w4.heap.size w4 w5) := ((Below.refl _ _).alloc (Nat.le_refl _) _).trans (hb5.mono (by simp))
    have HB5 := Lib.hid (HB4.out.trans (HB45.out.mono (by omega)))
    clear hb5 hc4 hf4
    have hc5 := box_cells HB5.out (by omega)
    have hd5 := box_cells HX5.out (by omega)
    go_wp2_with fail
    go_region_held3 (fun w' => w'.cell? ⟨w.heap.size, 0, none⟩ = some va ∧ w'.cell? ⟨w.heap.size, 1, none⟩ = some vb ∧
        w'.cell? ⟨w.heap.size, 2, none⟩ = some (.int .i64 x.run) ∧ w'.cell? ⟨w.heap.size, 3, none⟩ = some (.int .i64 x.head) ∧
        w'.cell? ⟨w4.heap.size, 0, none⟩ = some (.slice (some ⟨ga, 0, none⟩) x.na ca4) ∧ w'.cell? ⟨w4.heap.size, 1, none⟩ = some (.slice (some ⟨gb, 0, none⟩) x.nb cb4) ∧
        w'.cell? ⟨w4.heap.size, 2, none⟩ = some (.int .i64 x.run) ∧ w'.cell? ⟨w4.heap.size, 3, none⟩ = some (.int .i64 x.head)) (go_keep)
      (first | (go_at_call 17; refine (toSingle_any _ x _ (HV.out.keep ((HBB.out _).trans (HB5.out.drew.mono (by omega)))) (by omega) (by omega)).mono ?_; rintro e w6 ⟨u6, rfl, hF6, hb6⟩; have hz6 : w5.heap.size ≤ w6.heap.size := hb6.size; have hc6 := box_keep (w := w5.drew) hc5 hb6 (by simp; omega); have hd6 := box_keep (w := w5.drew) hd5 hb6 (by simp; omega))
             | (go_at_call 19; refine (eqSingle_any _ _ x x _ ((HF4.out.reads.keep (HB45.out.drew)).n.keep hb6) hF6.reads.n (by omega) (by omega) (by omega) (by omega)).mono ?_; rintro e w7 ⟨rfl, hb7⟩; rw [eqSg_refl]; have hc7 := box_keep hc6 hb7 (by omega); have hd7 := box_keep hd6 hb7 (by omega)))
    go_wp2_with fail
    go_ret
    exact ⟨rfl, (HBB.out _).trans ((HB5.out.drew.trans ((hb6.trans (hb7.mono (by simp; omega))).mono (by simp; omega))).mono (by omega))⟩
  · rw [show szSg x = -1 from if_neg hs]
    go_wp2_with fail
    go_ret
    exact ⟨rfl, (HBB.out _).trans (HB1.out.mono (by omega))⟩

set_option maxHeartbeats 1000000 in
theorem lawBest_any (v : Value) (x : Sg) (w : World) (hv : SgN w v x) (ha : x.na ≤ 9223372036854775807) (hb : x.nb ≤ 9223372036854775807) :
    Calls Try.prog 14 #[v] w fun e w' => e = .returned (.bool true) ∧ Below w.heap.size w w' := by
  have hv0 := hv
  obtain ⟨va, vb, rfl, _, _⟩ := hv
  have HV := Lib.hid hv0
  clear hv0
  have hbb : ∀ a, Below w.heap.size w (w.alloc a) := fun a => (Below.refl _ _).alloc (Nat.le_refl _) _
  have HBB := Lib.hid hbb
  clear hbb
  go_enter Try.func14, Try.ntmps14
  go_wp2_with fail
  refine (szSingle_any _ x _ (HV.out.keep (HBB.out _)) (by omega) (by omega)).mono ?_
  rintro e w1 ⟨rfl, hb1⟩
  rw [World.size_alloc] at hb1
  obtain ⟨hc1, hf1⟩ := bcellB hb1
  have hz1 : w.heap.size + 1 ≤ w1.heap.size := by have := hb1.size; simpa using this
  have HB1 := Lib.hid hb1
  clear hb1
  by_cases hs : x.na + x.nb ≤ 1048576
  · rw [show szSg x = 1048576 - x.na - x.nb from if_pos hs]
    go_wp2_with fail
    refine (toSingle_any _ x _ (HV.out.keep ((HBB.out _).trans (HB1.out.mono (by omega)))) (by omega) (by omega)).mono ?_
    rintro e w2 ⟨u2, rfl, hF2, hb2⟩
    have HB2 := Lib.hid (HB1.out.trans (hb2.mono (by omega)))
    have hz2 := hb2.size
    clear hb2 hc1 hf1
    obtain ⟨hc2, hf2⟩ := bcellB HB2.out
    go_wp2_with fail
    refine (specBest_any _ x _ hF2.reads (by omega) (by omega)).mono ?_
    clear hF2
    rintro e w3 ⟨rfl, hb3⟩
    have HB3 := Lib.hid (HB2.out.trans (hb3.mono (by omega)))
    have hz3 := hb3.size
    clear hb3 hc2 hf2
    obtain ⟨hc3, hf3⟩ := bcellB HB3.out
    go_wp2_with fail
    refine (toSingle_any _ x _ (HV.out.keep ((HBB.out _).trans (HB3.out.mono (by omega)))) (by omega) (by omega)).mono ?_
    rintro e w4 ⟨u4, rfl, hF4, hb4⟩
    have HB4 := Lib.hid (HB3.out.trans (hb4.mono (by omega)))
    have hz4 := hb4.size
    have HF4 := Lib.hid hF4
    obtain ⟨ga, ca4, gb, cb4, rfl, _⟩ := hF4
    clear hb4 hc3 hf3
    obtain ⟨hc4, hf4⟩ := bcellB HB4.out
    go_wp2_with fail
    refine (implBest_any _ x _ (HF4.out.reads.keep ((Below.refl _ _).alloc (Nat.le_refl _) _)) (by omega) (by omega)).mono ?_
    rintro e w5 ⟨rfl, hb5⟩
    rw [World.size_alloc] at hb5
    have HX5 := Lib.hid hb5
    have hz5 : w4.heap.size + 1 ≤ w5.heap.size := by have := hb5.size; simpa using this
    have HB45 : Hid (Below w4.heap.size w4 w5) := ((Below.refl _ _).alloc (Nat.le_refl _) _).trans (hb5.mono (by simp))
    have HB5 := Lib.hid (HB4.out.trans (HB45.out.mono (by omega)))
    clear hb5 hc4 hf4
    have hc5 := box_cells HB5.out (by omega)
    have hd5 := box_cells HX5.out (by omega)
    go_wp2_with fail
    go_region_held3 (fun w' => w'.cell? ⟨w.heap.size, 0, none⟩ = some va ∧ w'.cell? ⟨w.heap.size, 1, none⟩ = some vb ∧
        w'.cell? ⟨w.heap.size, 2, none⟩ = some (.int .i64 x.run) ∧ w'.cell? ⟨w.heap.size, 3, none⟩ = some (.int .i64 x.head) ∧
        w'.cell? ⟨w4.heap.size, 0, none⟩ = some (.slice (some ⟨ga, 0, none⟩) x.na ca4) ∧ w'.cell? ⟨w4.heap.size, 1, none⟩ = some (.slice (some ⟨gb, 0, none⟩) x.nb cb4) ∧
        w'.cell? ⟨w4.heap.size, 2, none⟩ = some (.int .i64 x.run) ∧ w'.cell? ⟨w4.heap.size, 3, none⟩ = some (.int .i64 x.head)) (go_keep)
      (first | (go_at_call 17; refine (toSingle_any _ x _ (HV.out.keep ((HBB.out _).trans (HB5.out.drew.mono (by omega)))) (by omega) (by omega)).mono ?_; rintro e w6 ⟨u6, rfl, hF6, hb6⟩; have hz6 : w5.heap.size ≤ w6.heap.size := hb6.size; have hc6 := box_keep (w := w5.drew) hc5 hb6 (by simp; omega); have hd6 := box_keep (w := w5.drew) hd5 hb6 (by simp; omega))
             | (go_at_call 19; refine (eqSingle_any _ _ x x _ ((HF4.out.reads.keep (HB45.out.drew)).n.keep hb6) hF6.reads.n (by omega) (by omega) (by omega) (by omega)).mono ?_; rintro e w7 ⟨rfl, hb7⟩; rw [eqSg_refl]; have hc7 := box_keep hc6 hb7 (by omega); have hd7 := box_keep hd6 hb7 (by omega)))
    go_wp2_with fail
    go_ret
    exact ⟨rfl, (HBB.out _).trans ((HB5.out.drew.trans ((hb6.trans (hb7.mono (by simp; omega))).mono (by simp; omega))).mono (by omega))⟩
  · rw [show szSg x = -1 from if_neg hs]
    go_wp2_with fail
    go_ret
    exact ⟨rfl, (HBB.out _).trans (HB1.out.mono (by omega))⟩
end Go.Proofs.Ytdmofgogpdodfaa
