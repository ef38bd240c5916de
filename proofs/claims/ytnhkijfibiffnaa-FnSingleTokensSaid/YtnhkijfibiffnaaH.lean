/-
  Walks: SingleEnd and SingleWait.
-/
import Derived.Test.YtnhkijfibiffnaaG
namespace Go.Proofs.Ytnhkijfibiffnaa
open Go.RowKit

/-- what SingleEnd answers -/
def endV (x : Sg) (s : ByteArray) : Int := if stOk x s = true then (if s.size = 0 then 0 else stT x (bt s) (s.size - 1) + x.run) else -1
theorem endV_no {x : Sg} {s : ByteArray} (h : stOk x s = false) : endV x s = -1 := if_neg (by rw [h]; simp)
theorem endV_zero {x : Sg} {s : ByteArray} (h : stOk x s = true) (hs : s.size = 0) : endV x s = 0 := by unfold endV; rw [if_pos h, if_pos hs]
theorem endV_pos {x : Sg} {s : ByteArray} (h : stOk x s = true) (hs : ¬ s.size = 0) : endV x s = stT x (bt s) (s.size - 1) + x.run := by unfold endV; rw [if_pos h, if_neg hs]
theorem stOk_parts {x : Sg} {s : ByteArray} (h : stOk x s = true) : SgB x ∧ ordOk x s = true := by
  simp only [stOk, Bool.and_eq_true] at h
  exact ⟨sgOk_bd h.1, h.2⟩

theorem specEnd_any (v : Value) (x : Sg) (w : World) (s : ByteArray) (hs : s.size ≤ 1048576) (hv : SgV w v x) (ha : x.na ≤ 1000000000000000) (hb : x.nb ≤ 1000000000000000) :
    Calls Try.prog 41 #[v, .string s] w fun e w' => e = .returned (.int .i64 (endV x s)) ∧ Below w.heap.size w w' := by
  have hbb : ∀ a, Below w.heap.size w (w.alloc a) := fun a => (Below.refl _ _).alloc (Nat.le_refl _) _
  have hv0 := hv
  obtain ⟨ba, oa, ca, bb, ob, cb, rfl, hca, hcb⟩ := hv
  clear hca hcb
  have HV := Lib.hid hv0
  clear hv0
  go_enter Try.func41, Try.ntmps41
  go_wp2_with fail
  refine (specStarts_any _ x _ s hs (HV.out.keep (hbb _)) (by omega) (by omega)).mono ?_
  rintro e w1 ⟨g, cap, rfl, hg, ho, hb1⟩
  rw [World.size_alloc] at hb1
  have hbox := box_cells hb1 (by omega)
  have HB1 := Lib.hid hb1
  clear hb1
  cases h1 : stOk x s
  · have H1 := Lib.hid h1
    clear h1 ho
    go_wp2_with fail
    go_ret
    exact ⟨retI (endV_no H1.out).symm, (hbb _).trans (HB1.out.mono (by omega))⟩
  have hpr := stOk_parts h1
  rw [stN_yes h1] at ho ⊢
  have hlen := ord_len hpr.1 hpr.2
  have H1 := Lib.hid h1
  clear h1
  by_cases h0 : s.size = 0
  · have H0 := Lib.hid h0
    have g0 : ((s.size : Int) == 0) = true := by simp [h0]
    clear h0 hpr ho
    go_wp2_with fail
    go_ret
    exact ⟨retI (endV_zero H1.out H0.out).symm, (hbb _).trans (HB1.out.mono (by omega))⟩
  · have g0 : ((s.size : Int) == 0) = false := by simp [h0]
    have hbd := stT_bd hpr.1 hpr.2 (s.size - 1) (by omega)
    have hrun := hpr.1.run
    have hcl := ho.cell1 (i := s.size - 1) (by omega)
    have HE := Lib.hid (endV_pos H1.out h0)
    have hpos : 0 < s.size := by omega
    clear h0 hpr ho
    go_wp2_with fail
    go_quiet (fail)
    go_wp2_with fail
    go_ret
    exact ⟨retI HE.out.symm, below_drewN ((hbb _).trans (HB1.out.mono (by omega))) _⟩

theorem implEnd_any (v : Value) (x : Sg) (w : World) (s : ByteArray) (hs : s.size ≤ 1048576) (hv : SgV w v x) (ha : x.na ≤ 1000000000000000) (hb : x.nb ≤ 1000000000000000) :
    Calls Try.prog 28 #[v, .string s] w fun e w' => e = .returned (.int .i64 (endV x s)) ∧ Below w.heap.size w w' := by
  have hbb : ∀ a, Below w.heap.size w (w.alloc a) := fun a => (Below.refl _ _).alloc (Nat.le_refl _) _
  have hv0 := hv
  obtain ⟨ba, oa, ca, bb, ob, cb, rfl, hca, hcb⟩ := hv
  clear hca hcb
  have HV := Lib.hid hv0
  clear hv0
  go_enter Try.func28, Try.ntmps28
  go_wp2_with fail
  refine (implStarts_any _ x _ s hs (HV.out.keep (hbb _)) (by omega) (by omega)).mono ?_
  rintro e w1 ⟨g, cap, rfl, hg, ho, hb1⟩
  rw [World.size_alloc] at hb1
  have hbox := box_cells hb1 (by omega)
  have HB1 := Lib.hid hb1
  clear hb1
  cases h1 : stOk x s
  · have H1 := Lib.hid h1
    clear h1 ho
    go_wp2_with fail
    go_ret
    exact ⟨retI (endV_no H1.out).symm, (hbb _).trans (HB1.out.mono (by omega))⟩
  have hpr := stOk_parts h1
  rw [stN_yes h1] at ho ⊢
  have hlen := ord_len hpr.1 hpr.2
  have H1 := Lib.hid h1
  clear h1
  by_cases h0 : s.size = 0
  · have H0 := Lib.hid h0
    have g0 : ((s.size : Int) == 0) = true := by simp [h0]
    clear h0 hpr ho
    go_wp2_with fail
    go_ret
    exact ⟨retI (endV_zero H1.out H0.out).symm, (hbb _).trans (HB1.out.mono (by omega))⟩
  · have g0 : ((s.size : Int) == 0) = false := by simp [h0]
    have hbd := stT_bd hpr.1 hpr.2 (s.size - 1) (by omega)
    have hrun := hpr.1.run
    have hcl := ho.cell1 (i := s.size - 1) (by omega)
    have HE := Lib.hid (endV_pos H1.out h0)
    have hpos : 0 < s.size := by omega
    clear h0 hpr ho
    go_wp2_with fail
    go_quiet (fail)
    go_wp2_with fail
    go_ret
    exact ⟨retI HE.out.symm, below_drewN ((hbb _).trans (HB1.out.mono (by omega))) _⟩

/-- what SingleWait answers -/
def waitV (x : Sg) (s : ByteArray) : Int := if stOk x s = true then sumTo (stT x (bt s)) s.size - sumTo (rdT x (bt s)) s.size else -1
theorem waitV_no {x : Sg} {s : ByteArray} (h : stOk x s = false) : waitV x s = -1 := if_neg (by rw [h]; simp)
theorem waitV_yes {x : Sg} {s : ByteArray} (h : stOk x s = true) : waitV x s = sumTo (stT x (bt s)) s.size - sumTo (rdT x (bt s)) s.size := if_pos h
theorem sum_rd (x : Sg) (c : Nat → Int) : ∀ k, sumTo (rdT x c) k = sumTo x.A (cntU c k) + sumTo x.B (k - cntU c k)
  | 0 => by simp [sumTo, cntU]
  | k + 1 => by
    have ih := sum_rd x c k
    have hle := cntU_le c k
    by_cases h : c k = 85
    · have e : k + 1 - cntU c (k + 1) = k - cntU c k := by rw [cntU_U h]; omega
      rw [e, cntU_U h]
      simp only [sumTo, rdT_U h, ih]; omega
    · have e : k + 1 - cntU c (k + 1) = (k - cntU c k) + 1 := by rw [cntU_D h]; omega
      rw [e, cntU_D h]
      simp only [sumTo, rdT_D h, ih]; omega
theorem waitV_sum {x : Sg} {s : ByteArray} (h : stOk x s = true) : waitV x s = sumTo (stT x (bt s)) s.size - sumTo x.A x.na - sumTo x.B x.nb := by
  rw [waitV_yes h, sum_rd]
  obtain ⟨_, h2, h3⟩ := ordOk_true.1 (stOk_parts h).2
  rw [h2, h3]
  have : x.na + x.nb - x.na = x.nb := by omega
  rw [this]
  omega

theorem implWait_any (v : Value) (x : Sg) (w : World) (s : ByteArray) (hs : s.size ≤ 1048576) (hv : SgV w v x) (ha : x.na ≤ 1000000000000000) (hb : x.nb ≤ 1000000000000000) :
    Calls Try.prog 27 #[v, .string s] w fun e w' => e = .returned (.int .i64 (waitV x s)) ∧ Below w.heap.size w w' := by
  have hbb : ∀ a, Below w.heap.size w (w.alloc a) := fun a => (Below.refl _ _).alloc (Nat.le_refl _) _
  have hv0 := hv
  obtain ⟨ba, oa, ca, bb, ob, cb, rfl, hca, hcb⟩ := hv
  clear hca hcb
  have HV := Lib.hid hv0
  clear hv0
  go_enter Try.func27, Try.ntmps27
  go_wp2_with fail
  refine (implValid_any _ x _ (HV.out.keep (hbb _)) (by omega) (by omega)).mono ?_
  rintro e w1 ⟨rfl, hb1⟩
  rw [World.size_alloc] at hb1
  have hbox := box_cells hb1 (by omega)
  have hz1 : w.heap.size + 1 ≤ w1.heap.size := by have := hb1.size; simpa using this
  have HB1 := Lib.hid hb1
  clear hb1
  cases h1 : sgOk x
  · have H1 := Lib.hid h1
    clear h1
    go_wp2_with fail
    go_ret
    exact ⟨retI (waitV_no (stOk_no1 H1.out)).symm, (hbb _).trans (HB1.out.mono (by omega))⟩
  have hx := sgOk_bd h1
  have H1 := Lib.hid h1
  clear h1
  go_wp2_with fail
  refine (isOrder_any _ s x _ (HV.out.keep ((hbb _).trans (HB1.out.mono (by omega)))) hs hx.na hx.nb).mono ?_
  rintro e w2 ⟨rfl, hb2⟩
  have hz2 := hb2.size
  have HB2 := Lib.hid (HB1.out.trans (hb2.mono (by omega)))
  have hbox2 := box_cells HB2.out (by omega)
  clear hb2 hbox
  cases h2 : ordOk x s
  · have H2 := Lib.hid h2
    clear h2
    go_wp2_with fail
    go_ret
    exact ⟨retI (waitV_no (stOk_no2 H2.out)).symm, (hbb _).trans (HB2.out.mono (by omega))⟩
  have hlen := ord_len hx h2
  have H2 := Lib.hid h2
  clear h2
  go_wp2_with fail
  refine (startsOf_any _ s x _ (HV.out.keep ((hbb _).trans (HB2.out.mono (by omega)))) hlen hx H2.out).mono ?_
  rintro e w3 ⟨g1, c1, g2, c2, rfl, hg1, hg2, hg12, ho1, ho2, hb3⟩
  have HO1 := Lib.hid ho1
  have HO2 := Lib.hid ho2
  have HB3 := Lib.hid (HB2.out.trans (hb3.mono (by omega)))
  have b1 := sumTo_bd' (stT x (bt s)) 10000 s.size (fun k hk => by have := stT_bd hx H2.out k hk; omega) s.size (Nat.le_refl _)
  have b2 := sumTo_bd' (rdT x (bt s)) 10000 s.size (fun k hk => by have := rdT_bd hx H2.out k hk; omega) s.size (Nat.le_refl _)
  clear ho1 ho2 hb3 hbox2
  go_wp2_with fail
  refine (sumOf_any _ _ _ _ (stT x (bt s)) _ (by omega) (fun k hk => by have := stT_bd hx H2.out k hk; omega) (IC.of_own HO1.out)).mono ?_
  rintro e w4 ⟨rfl, rfl⟩
  go_wp2_with fail
  refine (sumOf_any _ _ _ _ (rdT x (bt s)) _ (by omega) (fun k hk => by have := rdT_bd hx H2.out k hk; omega) (IC.of_own HO2.out)).mono ?_
  rintro e w4 ⟨rfl, rfl⟩
  go_wp2_with fail
  go_ret
  exact ⟨retI (waitV_yes (stOk_yes H1.out H2.out)).symm, (hbb _).trans (HB3.out.mono (by omega))⟩

set_option maxHeartbeats 1000000 in
theorem specWait_any (v : Value) (x : Sg) (w : World) (s : ByteArray) (hs : s.size ≤ 1048576) (hv : SgV w v x) (ha : x.na ≤ 1000000000000000) (hb : x.nb ≤ 1000000000000000) :
    Calls Try.prog 50 #[v, .string s] w fun e w' => e = .returned (.int .i64 (waitV x s)) ∧ Below w.heap.size w w' := by
  have hbb : ∀ a, Below w.heap.size w (w.alloc a) := fun a => (Below.refl _ _).alloc (Nat.le_refl _) _
  have hv0 := hv
  obtain ⟨ba, oa, ca, bb, ob, cb, rfl, hca, hcb⟩ := hv
  have HCA := Lib.hid hca
  have HCB := Lib.hid hcb
  clear hca hcb
  have HV := Lib.hid hv0
  clear hv0
  go_enter Try.func50, Try.ntmps50
  go_wp2_with fail
  refine (specStarts_any _ x _ s hs (HV.out.keep (hbb _)) (by omega) (by omega)).mono ?_
  rintro e w1 ⟨g, cap, rfl, hg, ho, hb1⟩
  rw [World.size_alloc] at hb1
  have hbox := box_cells hb1 (by omega)
  have HB1 := Lib.hid hb1
  clear hb1
  cases h1 : stOk x s
  · have H1 := Lib.hid h1
    clear h1 ho
    go_wp2_with fail
    go_ret
    exact ⟨retI (waitV_no H1.out).symm, (hbb _).trans (HB1.out.mono (by omega))⟩
  have hpr := stOk_parts h1
  rw [stN_yes h1] at ho ⊢
  have HO := Lib.hid ho
  have HP := Lib.hid hpr
  have hlen := ord_len hpr.1 hpr.2
  have hna := hpr.1.na
  have hnb := hpr.1.nb
  have b1 := sumTo_bd' (stT x (bt s)) 10000 s.size (fun k hk => by have := stT_bd hpr.1 hpr.2 k hk; omega) s.size (Nat.le_refl _)
  have b2 := sumTo_bd' x.A 10000 x.na (fun k hk => by have := hpr.1.A k hk; omega) x.na (Nat.le_refl _)
  have b3 := sumTo_bd' x.B 10000 x.nb (fun k hk => by have := hpr.1.B k hk; omega) x.nb (Nat.le_refl _)
  have HW := Lib.hid (waitV_sum h1)
  clear h1 hpr ho
  have HICA : Hid (IC w1 ba oa x.na x.A) := HCA.out.keep ((hbb _).trans (HB1.out.mono (by omega)))
  have HICB : Hid (IC w1 bb ob x.nb x.B) := HCB.out.keep ((hbb _).trans (HB1.out.mono (by omega)))
  go_wp2_with fail
  go_quiet (first
    | (go_at_call_of 77 g; exact Calls.quiet_of_same ((l1Sum_any _ _ _ _ (stT x (bt s)) _ (by omega) (fun k hk => by have := stT_bd HP.out.1 HP.out.2 k hk; omega) (IC.of_own (HO.out.drewN _))).mono fun e w' ⟨h1, h2⟩ => ⟨h1, h2.symm⟩))
    | (go_at_call_of 77 ba; exact Calls.quiet_of_same ((l1Sum_any _ _ _ _ x.A _ (by omega) (fun k hk => by have := HP.out.1.A k hk; omega) (HICA.out.drewN _)).mono fun e w' ⟨h1, h2⟩ => ⟨h1, h2.symm⟩))
    | (go_at_call_of 77 bb; exact Calls.quiet_of_same ((l1Sum_any _ _ _ _ x.B _ (by omega) (fun k hk => by have := HP.out.1.B k hk; omega) (HICB.out.drewN _)).mono fun e w' ⟨h1, h2⟩ => ⟨h1, h2.symm⟩)))
  go_wp2_with fail
  go_ret
  refine ⟨retI ?_, below_drewN ((hbb _).trans (HB1.out.mono (by omega))) _⟩
  rw [HW.out] <;> first | rfl | (rw [IntWalk.i64_in (sumTo (stT x (bt s)) s.size - sumTo x.A x.na) (by omega), IntWalk.i64_in _ (by omega)])

end Go.Proofs.Ytnhkijfibiffnaa
