/-
  The walk of the law FnExactSingleLater.
-/
import Derived.Test.YtdmofgogpdodfaaLa
namespace Go.Proofs.Ytdmofgogpdodfaa
open Go.RowKit

set_option maxRecDepth 100000 in
set_option maxHeartbeats 4000000 in
theorem lawLater_any (v : Value) (x : Sg) (w : World) (d : Int) (_hd : -9223372036854775808 ≤ d ∧ d ≤ 9223372036854775807) (hv : SgN w v x) (ha : x.na ≤ 9223372036854775807) (hb : x.nb ≤ 9223372036854775807) :
    Calls Try.prog 7 #[v, .int .i64 d] w fun e w' => e = .returned (.bool true) ∧ Below w.heap.size w w' := by
  have hv0 := hv
  obtain ⟨va, vb, rfl, _, _⟩ := hv
  have HV := Lib.hid hv0
  clear hv0
  have hbb : ∀ a, Below w.heap.size w (w.alloc a) := fun a => (Below.refl _ _).alloc (Nat.le_refl _) _
  have HBB := Lib.hid hbb
  clear hbb
  go_enter Try.func7, Try.ntmps7
  go_wp2_with fail
  refine (szSingle_any _ x _ (HV.out.keep (HBB.out _)) (by omega) (by omega)).mono ?_
  rintro e w1 ⟨rfl, hb1⟩
  rw [World.size_alloc] at hb1
  have c1 := box_cells hb1 (by omega)
  have hz1 : w.heap.size + 1 ≤ w1.heap.size := by have := hb1.size; simpa using this
  have HB1 := Lib.hid hb1
  clear hb1
  by_cases hs : x.na + x.nb ≤ 1048576
  · rw [show szSg x = 1048576 - x.na - x.nb from if_pos hs]
    generalize hR : (if (latOk x d) = true then (movSg x d) else zeroSg) = R
    have hRs : R.na ≤ 2000000 ∧ R.nb ≤ 2000000 := by
      subst hR
      split
      · simp only [movSg]; omega
      · simp [zeroSg]
    obtain ⟨hRa, hRb⟩ := hRs
    have HR := Lib.hid hR
    clear hR
    go_wp2_with fail
    refine (toSingle_any _ x _ (HV.out.keep ((HBB.out _).trans (HB1.out.mono (by omega)))) (by omega) (by omega)).mono ?_
    rintro e w2 ⟨u2, rfl, hF2, hb2⟩
    have HB2 := Lib.hid (HB1.out.trans (hb2.mono (by omega)))
    have hz2 := hb2.size
    replace c1 := box_keep c1 hb2 (by omega)
    clear hb2
    go_wp2_with fail
    refine (specLater_any _ x _ d hF2.reads (by omega) (by omega)).mono ?_
    rintro e w3 ⟨u3, rfl, hw3, hb3⟩
    rw [HR.out] at hw3
    clear hF2
    have HB3 := Lib.hid (HB2.out.trans (hb3.mono (by omega)))
    have hz3 := hb3.size
    replace c1 := box_keep c1 hb3 (by omega)
    have HW3 := Lib.hid hw3
    obtain ⟨r3, k3, r3', k3', rfl⟩ := hw3.shape
    clear hw3
    clear hb3
    have B4 : Hid (∀ o, Below w3.heap.size w3 (w3.alloc o)) := fun o => (Below.refl _ _).alloc (Nat.le_refl _) _
    have c1' := fun X => box_keep c1 (B4.out X) (by omega)
    go_wp2_with fail
    clear c1'
    refine (toSingle_any _ x _ (HV.out.keep ((HBB.out _).trans ((HB3.out.trans ((B4.out _).mono (by omega))).mono (by omega)))) (by omega) (by omega)).mono ?_
    rintro e w4 ⟨u4, rfl, hF4, hb4⟩
    rw [World.size_alloc] at hb4 hF4
    have c4 := box_cells hb4 (by omega)
    have hz4 : w3.heap.size + 1 ≤ w4.heap.size := by have := hb4.size; simpa using this
    have hb34 := (B4.out _).trans (hb4.mono (by omega))
    replace c1 := box_keep c1 hb34 (by omega)
    have HB4 := Lib.hid (HB3.out.trans (hb34.mono (by omega)))
    have HW4 := Lib.hid (HW3.out.keep hb34)
    have HF4 := Lib.hid hF4
    obtain ⟨ga, ca4, gb, cb4, rfl, _⟩ := hF4
    clear hb4 hb34
    have B6 : Hid (∀ o, Below w4.heap.size w4 (w4.alloc o)) := fun o => (Below.refl _ _).alloc (Nat.le_refl _) _
    go_wp2_with fail
    refine (implLater_any _ x _ d (HF4.out.reads.keep (B6.out _)) (by omega) (by omega)).mono ?_
    rintro e w5 ⟨u5, rfl, hg5, hb5⟩
    rw [HR.out] at hg5
    rw [World.size_alloc] at hb5 hg5
    have c6 := box_cells hb5 (by omega)
    have hz5 : w4.heap.size + 1 ≤ w5.heap.size := by have := hb5.size; simpa using this
    have hb45 := (B6.out _).trans (hb5.mono (by omega))
    replace c1 := box_keep c1 hb45 (by omega)
    replace c4 := box_keep c4 hb45 (by omega)
    have HB5 := Lib.hid (HB4.out.trans (hb45.mono (by omega)))
    have HW5 := Lib.hid (HW4.out.keep hb45)
    have HU5 := Lib.hid (HF4.out.i.keep hb45)
    have HG5 := Lib.hid hg5
    obtain ⟨r5, k5, r5', k5', rfl⟩ := hg5.shape
    clear hg5
    clear hb5 hb45
    have B7 : Hid (∀ o, Below w5.heap.size w5 (w5.alloc o)) := fun o => (Below.refl _ _).alloc (Nat.le_refl _) _
    have c4' := fun X => box_keep c4 (B7.out X) (by omega)
    go_wp2_with fail
    clear c4'
    refine (eqSingle_any _ _ R R _ (HG5.out.n.keep (B7.out _)) (HW5.out.n.keep (B7.out _)) (by omega) (by omega) (by omega) (by omega)).mono ?_
    rintro e w6 ⟨rfl, hb6⟩
    rw [eqSg_refl]
    rw [World.size_alloc] at hb6
    have c7 := box_cells hb6 (by omega)
    have hz6 : w5.heap.size + 1 ≤ w6.heap.size := by have := hb6.size; simpa using this
    have hb56 := (B7.out _).trans (hb6.mono (by omega))
    replace c1 := box_keep c1 hb56 (by omega)
    replace c4 := box_keep c4 hb56 (by omega)
    replace c6 := box_keep c6 hb56 (by omega)
    have HB6 := Lib.hid (HB5.out.trans (hb56.mono (by omega)))
    have HW6 := Lib.hid (HW5.out.keep hb56)
    have HU6 := Lib.hid (HU5.out.keep hb56)
    have HG6 := Lib.hid (HG5.out.keep hb56)
    clear hb6 hb56
    go_wp2_with fail
    go_region_held3 (fun w' => w'.cell? ⟨w.heap.size, 0, none⟩ = some va ∧ w'.cell? ⟨w.heap.size, 1, none⟩ = some vb ∧
        w'.cell? ⟨w.heap.size, 2, none⟩ = some (.int .i64 x.run) ∧ w'.cell? ⟨w.heap.size, 3, none⟩ = some (.int .i64 x.head) ∧
        w'.cell? ⟨w4.heap.size, 0, none⟩ = some (.slice (some ⟨ga, 0, none⟩) x.na ca4) ∧ w'.cell? ⟨w4.heap.size, 1, none⟩ = some (.slice (some ⟨gb, 0, none⟩) x.nb cb4) ∧
        w'.cell? ⟨w4.heap.size, 2, none⟩ = some (.int .i64 x.run) ∧ w'.cell? ⟨w4.heap.size, 3, none⟩ = some (.int .i64 x.head)) (go_keep)
      (first | (go_at_call 17; refine (toSingle_any _ x _ (HV.out.keep ((HBB.out _).trans (HB6.out.drew.mono (by omega)))) (by omega) (by omega)).mono ?_; rintro e w7 ⟨u7, rfl, hF7, hb7⟩; have hz7 : w6.heap.size ≤ w7.heap.size := hb7.size; have d1 := box_keep (w := w6.drew) c1 hb7 (by simp; omega); have d6 := box_keep (w := w6.drew) c6 hb7 (by simp; omega))
             | (go_at_call 19; refine (eqSingle_any _ _ x x _ ((HU6.out.n.keep (Below.refl _ w6).drew).keep hb7) hF7.reads.n (by omega) (by omega) (by omega) (by omega)).mono ?_; rintro e w8 ⟨rfl, hb8⟩; rw [eqSg_refl]; have e1 := box_keep d1 hb8 (by omega); have e6 := box_keep d6 hb8 (by omega)))
    have hz8 := hb8.size
    have hb68 : Below w6.heap.size w6 w8 := (Below.refl _ w6).drew.trans ((hb7.trans (hb8.mono (by simp; omega))).mono (by simp))
    replace c1 := box_keep c1 hb68 (by omega)
    replace c4 := box_keep c4 hb68 (by omega)
    replace c6 := box_keep c6 hb68 (by omega)
    replace c7 := box_keep c7 hb68 (by omega)
    have HB8 := Lib.hid (HB6.out.trans (hb68.mono (by omega)))
    have HW8 := Lib.hid (HW6.out.keep hb68)
    have HU8 := Lib.hid (HU6.out.keep hb68)
    have HG8 := Lib.hid (HG6.out.keep hb68)
    clear d1 d6 e1 e6 hb68 hb7 hb8 hF7
    go_wp2_with fail
    refine (markSingle_any _ _ _ x 1 _ (by omega) (by omega) (by omega) (by omega) HU8.out (by omega)).mono ?_
    rintro e w9 ⟨rfl, _, hf9⟩
    have hz9 := hf9.size
    replace c1 := box_frm c1 hf9 (by omega) (by omega)
    replace c4 := box_frm c4 hf9 (by omega) (by omega)
    replace c7 := box_frm c7 hf9 (by omega) (by omega)
    have HB9 := Lib.hid (HB8.out.trans (hf9.below (by omega) (fun k hk hs => by omega)))
    have HW9 := Lib.hid (HW8.out.frm hf9 (fun k h1 h2 hs => by omega))
    have HG9 := Lib.hid (HG8.out.frm hf9 (fun k h1 h2 hs => by omega))
    clear hf9 c6
    go_wp2_with fail
    refine (eqSingle_any _ _ R R _ HG9.out.n HW9.out.n (by omega) (by omega) (by omega) (by omega)).mono ?_
    rintro e w10 ⟨rfl, hb10⟩
    rw [eqSg_refl]
    have hz10 := hb10.size
    replace c1 := box_keep c1 hb10 (by omega)
    replace c4 := box_keep c4 hb10 (by omega)
    replace c7 := box_keep c7 hb10 (by omega)
    have HB10 := Lib.hid (HB9.out.trans (hb10.mono (by omega)))
    have HW10 := Lib.hid (HW9.out.keep hb10)
    have HG10 := Lib.hid (HG9.out.keep hb10)
    clear hb10
    go_wp2_with fail
    refine (markSingle_any _ _ _ R 1 _ (by omega) (by omega) (by omega) (by omega) HG10.out (by omega)).mono ?_
    rintro e w11 ⟨rfl, hm11, hf11⟩
    have hz11 := hf11.size
    replace c1 := box_frm c1 hf11 (by omega) (by omega)
    replace c4 := box_frm c4 hf11 (by omega) (by omega)
    replace c7 := box_frm c7 hf11 (by omega) (by omega)
    have HB11 := Lib.hid (HB10.out.trans (hf11.below (by omega) (fun k hk hs => by omega)))
    have HW11 := Lib.hid (HW10.out.frm hf11 (fun k h1 h2 hs => by omega))
    have HM11 := Lib.hid hm11
    clear hf11 hm11
    go_wp2_with fail
    refine (heldSingle_any _ (markSg R 1) 1 _ (by show R.na ≤ _; omega) (by show R.nb ≤ _; omega) (by omega) (by omega) HM11.out.n).mono ?_
    rintro e w12 ⟨rfl, hb12⟩
    rw [heldSg_mark R 1 (by omega)]
    have hz12 := hb12.size
    replace c1 := box_keep c1 hb12 (by omega)
    replace c4 := box_keep c4 hb12 (by omega)
    replace c7 := box_keep c7 hb12 (by omega)
    have HB12 := Lib.hid (HB11.out.trans (hb12.mono (by omega)))
    have HW12 := Lib.hid (HW11.out.keep hb12)
    have HM12 := Lib.hid (HM11.out.keep hb12)
    clear hb12
    go_wp2_with fail
    refine (toSingle_any _ x _ (HV.out.keep ((HBB.out _).trans (HB12.out.mono (by omega)))) (by omega) (by omega)).mono ?_
    rintro e w13 ⟨u13, rfl, hF13, hb13⟩
    have hz13 := hb13.size
    replace c4 := box_keep c4 hb13 (by omega)
    replace c7 := box_keep c7 hb13 (by omega)
    have HB13 := Lib.hid (HB12.out.trans (hb13.mono (by omega)))
    have HW13 := Lib.hid (HW12.out.keep hb13)
    have HM13 := Lib.hid (HM12.out.keep hb13)
    clear hb13 c1
    go_wp2_with fail
    refine (implLater_any _ x _ d hF13.reads (by omega) (by omega)).mono ?_
    rintro e w14 ⟨u14, rfl, hh14, hb14⟩
    rw [HR.out] at hh14
    clear hF13
    have hz14 := hb14.size
    replace c4 := box_keep c4 hb14 (by omega)
    replace c7 := box_keep c7 hb14 (by omega)
    have HB14 := Lib.hid (HB13.out.trans (hb14.mono (by omega)))
    have HW14 := Lib.hid (HW13.out.keep hb14)
    have HM14 := Lib.hid (HM13.out.keep hb14)
    have HH14 := Lib.hid hh14
    obtain ⟨r14, k14, r14', k14', rfl⟩ := hh14.shape
    clear hh14
    clear hb14
    have B15 : Hid (∀ o, Below w14.heap.size w14 (w14.alloc o)) := fun o => (Below.refl _ _).alloc (Nat.le_refl _) _
    have c4' := fun X => box_keep c4 (B15.out X) (by omega)
    go_wp2_with fail
    clear c4'
    refine (eqSingle_any _ _ R R _ (HH14.out.n.keep (B15.out _)) (HW14.out.n.keep (B15.out _)) (by omega) (by omega) (by omega) (by omega)).mono ?_
    rintro e w15 ⟨rfl, hb15⟩
    rw [eqSg_refl]
    rw [World.size_alloc] at hb15
    have hz15 : w14.heap.size + 1 ≤ w15.heap.size := by have := hb15.size; simpa using this
    have hb145 := (B15.out _).trans (hb15.mono (by omega))
    replace c7 := box_keep c7 hb145 (by omega)
    have HB15 := Lib.hid (HB14.out.trans (hb145.mono (by omega)))
    have HM15 := Lib.hid (HM14.out.keep hb145)
    clear hb145 hb15 c4
    go_wp2_with fail
    refine (heldSingle_any _ (markSg R 1) 1 _ (by show R.na ≤ _; omega) (by show R.nb ≤ _; omega) (by omega) (by omega) HM15.out.n).mono ?_
    rintro e w16 ⟨rfl, hb16⟩
    rw [heldSg_mark R 1 (by omega)]
    go_wp2_with fail
    go_ret
    exact ⟨rfl, (HBB.out _).trans ((HB15.out.trans (hb16.mono (by omega))).mono (by omega))⟩
  · rw [show szSg x = -1 from if_neg hs]
    go_wp2_with fail
    go_ret
    exact ⟨rfl, (HBB.out _).trans (HB1.out.mono (by omega))⟩
end Go.Proofs.Ytdmofgogpdodfaa
