/-
  The law FnPulse: plain sums, and the walk.
-/
import Derived.Test.YtlflkkigagdilaaDp
import Derived.Test.YtlflkkigagdilaaLCn
namespace Go.Proofs.Ytlflkkigagdilaa
open Go.RowKit

theorem atP_back (p : Int) : atP (-1 - p) = atP p := by unfold atP; split <;> split <;> omega
theorem oneP_back (p : Int) : oneP (-1 - p) = -oneP p := by unfold oneP; split <;> split <;> omega
theorem stepC_back (f : Nat → Int) (p : Int) (j : Nat) : stepC (stepC f p) (-1 - p) j = f j := by
  unfold stepC
  rw [atP_back, oneP_back]
  split <;> split <;> omega
theorem cntsB_congr {n : Nat} {f g : Nat → Int} (h : ∀ j, f j = g j) : cntsB n f = cntsB n g := by rw [show f = g from funext h]
theorem pulOk_true {n : Nat} {f : Nat → Int} {p : Int} (h : pulOk n f p = true) : cntsB n f = true ∧ atP p ≤ n ∧ cntsB n (stepC f p) = true := by
  simp only [pulOk, Bool.and_eq_true] at h
  exact ⟨h.1, pulB_true h.2⟩
theorem pulOk_back {n : Nat} {f : Nat → Int} {p : Int} (h : pulOk n f p = true) : pulOk n (stepC f p) (-1 - p) = true := by
  obtain ⟨h1, h2, h3⟩ := pulOk_true h
  rw [pulOk_yes h3 (by rw [atP_back]; exact h2), cntsB_congr (stepC_back f p)]
  exact h1
theorem step_sum (f : Nat → Int) (p : Int) : ∀ m, sumTo (stepC f p) m = sumTo f m + (if atP p < m then oneP p else 0) - (if 0 < atP p ∧ atP p ≤ m then oneP p else 0)
  | 0 => by
    rw [if_neg (by omega), if_neg (by omega)]
    simp [sumTo]
  | m + 1 => by
    have ih := step_sum f p m
    simp only [sumTo, ih]
    unfold stepC
    repeat' split
    all_goals omega
/-- the axles that a pulse brings in -/
def dueP (m : Nat) (p : Int) : Int := if p = -1 ∨ p = m then -1 else if p = 0 ∨ p = -1 - (m : Int) then 1 else 0
theorem step_due {n : Nat} {f : Nat → Int} {p : Int} (h : pulOk n f p = true) : sumTo (stepC f p) n - sumTo f n = dueP n p := by
  obtain ⟨h1, h2, _⟩ := pulOk_true h
  have hn := (cntsB_true.1 h1).1
  rw [step_sum]
  unfold dueP
  by_cases hp : p < 0
  · have e1 := atP_neg hp
    have e2 := oneP_neg hp
    rw [e2]
    repeat' split
    all_goals omega
  · have e1 := atP_pos hp
    have e2 := oneP_pos hp
    rw [e2]
    repeat' split
    all_goals omega

set_option maxRecDepth 100000 in
set_option maxHeartbeats 2000000 in
theorem lawPulse_any (ao : Option Addr) (n c : Nat) (w : World) (hB : BSl w ao n) (hnc : n ≤ c) (hn : n ≤ 9223372036854775807) :
    Calls Try.prog 6 #[.slice ao n c] w fun e w' => e = .returned (.bool true) ∧ Below w.heap.size w w' := by
  have HBS := Lib.hid hB
  clear hB
  by_cases hlong : 1048576 < n
  · go_enter Try.func6, Try.ntmps6
    go_wp2_with fail
    go_ret
    exact ⟨rfl, Below.refl _ _⟩
  go_enter Try.func6, Try.ntmps6
  go_wp2_with fail
  refine (drawPulse_any ao n c _ hnc hn HBS.out).mono ?_
  rintro e w1 ⟨m, g, cap, f, p, rfl, hm, hf, hp0, hp1, hg, ho, hb1⟩
  have HF := Lib.hid hf
  have HO1 := Lib.hid ho
  have HB1 := Lib.hid hb1
  clear hf ho hb1
  go_wp2_with fail
  refine (implPulse_any g 0 m cap f p _ (by omega) (by omega) (IC.of_own HO1.out)).mono ?_
  rintro e w2 ⟨g2, c2, rfl, hg2, ho2, hb2⟩
  have HO2 := Lib.hid ho2
  have HB2 := Lib.hid (HB1.out.trans (hb2.mono HB1.out.size))
  have HO12 := Lib.hid (HO1.out.below hb2 HO1.out.lt)
  clear ho2 hb2
  obtain ⟨N, hN⟩ : ∃ N : Nat, N = if pulOk m f p = true then m else 0 := ⟨_, rfl⟩
  rw [← hN] at HO2 ⊢
  have HN := Lib.hid hN
  have hNb : N ≤ 4 := by rw [hN]; split <;> omega
  clear hN
  go_wp2_with fail
  refine (specPulse_any g 0 m cap f p _ (by omega) (by omega) (IC.of_own HO12.out)).mono ?_
  rintro e w3 ⟨g3, c3, rfl, hg3, ho3, hb3⟩
  rw [← HN.out] at ho3 ⊢
  have HO3 := Lib.hid ho3
  have HO23 := Lib.hid (HO2.out.below hb3 HO2.out.lt)
  have HO13 := Lib.hid (HO12.out.below hb3 HO12.out.lt)
  have HB3 := Lib.hid (HB2.out.trans (hb3.mono HB2.out.size))
  clear ho3 hb3
  have gb : ∀ b : Bool, (b != b) = false := fun b => by simp
  have gb2 : ∀ b : Bool, (b == b) = true := fun b => by simp
  cases hok : pulOk m f p
  · have HK := Lib.hid hok
    clear hok
    go_wp2_with fail
    refine (sameInts_any g2 0 N c2 g3 0 N c3 _ _ _ (by omega) (by omega) (IC.of_own HO23.out) (IC.of_own HO3.out)).mono ?_
    rintro e w4 ⟨rfl, q4, rfl⟩
    rw [eqSl_refl]
    go_wp2_with fail
    refine (sameInts_any g2 0 N c2 g3 0 N c3 _ _ _ (by omega) (by omega) (IC.of_own (HO23.out.drewN _)) (IC.of_own (HO3.out.drewN _))).mono ?_
    rintro e w5 ⟨rfl, q5, rfl⟩
    rw [eqSl_refl]
    go_wp2_with fail
    go_ret
    exact ⟨rfl, below_drewN HB3.out _⟩
  · have HK := Lib.hid hok
    have hN2 : N = m := by rw [HN.out, hok]; rfl
    have hkk := pulOk_true hok
    have hmm := (cntsB_true.1 hkk.1).1
    have HC0 := Lib.hid (cntsB_true.1 hkk.1).2
    have HC1 := Lib.hid (cntsB_true.1 hkk.2.2).2
    have HDUE := Lib.hid (step_due hok)
    clear HN
    obtain rfl : m = N := hN2.symm
    clear hok hN2 hkk
    go_wp2_with fail
    refine (sameInts_any g2 0 m c2 g3 0 m c3 _ _ _ (by omega) (by omega) (IC.of_own HO23.out) (IC.of_own HO3.out)).mono ?_
    rintro e w4 ⟨rfl, q4, rfl⟩
    rw [eqSl_refl]
    go_wp2_with fail
    have HB4 := Lib.hid (below_drewN HB3.out q4)
    have HO14 := Lib.hid (HO13.out.drewN q4)
    have HO24 := Lib.hid (HO23.out.drewN q4)
    refine (implPulse_any g2 0 m c2 (stepC f p) (-1 - p) _ (by omega) (by omega) (IC.of_own HO24.out)).mono ?_
    intro e wx hx
    obtain ⟨gx, cx, rfl, hgx, hox, hbx⟩ := hx.yes (pulOk_back HK.out)
    have HX := Lib.hid hox
    have HOx := Lib.hid (HO14.out.below hbx HO14.out.lt)
    have HO2x := Lib.hid (HO24.out.below hbx HO24.out.lt)
    have HBx := Lib.hid (HB4.out.trans (hbx.mono HB4.out.size))
    have HEQ : Hid (eqSl m m (stepC (stepC f p) (-1 - p)) f = true) := eqSl_true.2 ⟨rfl, fun i _ => stepC_back f p i⟩
    clear hx hox hbx
    have s1 := sumTo_bd' f 50 m (fun i hi => by have := HC0.out i hi; omega) m (Nat.le_refl _)
    have s2 := sumTo_bd' (stepC f p) 50 m (fun i hi => by have := HC1.out i hi; omega) m (Nat.le_refl _)
    go_wp2_with fail
    refine (lawsSum_any g2 0 m c2 (stepC f p) _ (by omega) (fun i hi => by have := HC1.out i hi; omega) (IC.of_own HO2x.out)).mono ?_
    rintro e w' ⟨rfl, rfl⟩
    go_wp2_with fail
    refine (lawsSum_any g 0 m cap f _ (by omega) (fun i hi => by have := HC0.out i hi; omega) (IC.of_own HOx.out)).mono ?_
    rintro e w' ⟨rfl, rfl⟩
    by_cases k1 : p = 0
    · have q1 : (p == 0) = true := by simp; omega
      have q2 : (p == -1 - (m : Int)) = false := by simp; omega
      have q3 : (p == -1) = false := by simp; omega
      have q4 : (p == (m : Int)) = false := by simp; omega
      have hd : (sumTo (stepC f p) m - sumTo f m == 1) = true := by
        have h1 := HDUE.out
        unfold dueP at h1
        simp; omega
      first | clear k4 k3 k2 k1 | clear k3 k2 k1 | clear k2 k1 | clear k1
      go_wp2_with fail
      refine (sameInts_any gx 0 m cx g 0 m cap _ _ _ (by omega) (by omega) (IC.of_own HX.out) (IC.of_own HOx.out)).mono ?_
      rintro e w5 ⟨rfl, q5, rfl⟩
      rw [HEQ.out]
      go_wp2_with fail
      go_ret
      exact ⟨rfl, below_drewN HBx.out _⟩
    by_cases k2 : p = -1 - (m : Int)
    · have q1 : (p == 0) = false := by simp; omega
      have q2 : (p == -1 - (m : Int)) = true := by simp; omega
      have q3 : (p == -1) = false := by simp; omega
      have q4 : (p == (m : Int)) = false := by simp; omega
      have hd : (sumTo (stepC f p) m - sumTo f m == 1) = true := by
        have h1 := HDUE.out
        unfold dueP at h1
        simp; omega
      first | clear k4 k3 k2 k1 | clear k3 k2 k1 | clear k2 k1 | clear k1
      go_wp2_with fail
      refine (sameInts_any gx 0 m cx g 0 m cap _ _ _ (by omega) (by omega) (IC.of_own HX.out) (IC.of_own HOx.out)).mono ?_
      rintro e w5 ⟨rfl, q5, rfl⟩
      rw [HEQ.out]
      go_wp2_with fail
      go_ret
      exact ⟨rfl, below_drewN HBx.out _⟩
    by_cases k3 : p = -1
    · have q1 : (p == 0) = false := by simp; omega
      have q2 : (p == -1 - (m : Int)) = false := by simp; omega
      have q3 : (p == -1) = true := by simp; omega
      have q4 : (p == (m : Int)) = false := by simp; omega
      have hd : (sumTo (stepC f p) m - sumTo f m == -1) = true := by
        have h1 := HDUE.out
        unfold dueP at h1
        simp; omega
      first | clear k4 k3 k2 k1 | clear k3 k2 k1 | clear k2 k1 | clear k1
      go_wp2_with fail
      refine (sameInts_any gx 0 m cx g 0 m cap _ _ _ (by omega) (by omega) (IC.of_own HX.out) (IC.of_own HOx.out)).mono ?_
      rintro e w5 ⟨rfl, q5, rfl⟩
      rw [HEQ.out]
      go_wp2_with fail
      go_ret
      exact ⟨rfl, below_drewN HBx.out _⟩
    by_cases k4 : p = (m : Int)
    · have q1 : (p == 0) = false := by simp; omega
      have q2 : (p == -1 - (m : Int)) = false := by simp; omega
      have q3 : (p == -1) = false := by simp; omega
      have q4 : (p == (m : Int)) = true := by simp; omega
      have hd : (sumTo (stepC f p) m - sumTo f m == -1) = true := by
        have h1 := HDUE.out
        unfold dueP at h1
        simp; omega
      first | clear k4 k3 k2 k1 | clear k3 k2 k1 | clear k2 k1 | clear k1
      go_wp2_with fail
      refine (sameInts_any gx 0 m cx g 0 m cap _ _ _ (by omega) (by omega) (IC.of_own HX.out) (IC.of_own HOx.out)).mono ?_
      rintro e w5 ⟨rfl, q5, rfl⟩
      rw [HEQ.out]
      go_wp2_with fail
      go_ret
      exact ⟨rfl, below_drewN HBx.out _⟩
    have q1 : (p == 0) = false := by simp; omega
    have q2 : (p == -1 - (m : Int)) = false := by simp; omega
    have q3 : (p == -1) = false := by simp; omega
    have q4 : (p == (m : Int)) = false := by simp; omega
    have hd : (sumTo (stepC f p) m - sumTo f m == 0) = true := by
      have h1 := HDUE.out
      unfold dueP at h1
      simp; omega
    first | clear k4 k3 k2 k1 | clear k3 k2 k1 | clear k2 k1 | clear k1
    go_wp2_with fail
    refine (sameInts_any gx 0 m cx g 0 m cap _ _ _ (by omega) (by omega) (IC.of_own HX.out) (IC.of_own HOx.out)).mono ?_
    rintro e w5 ⟨rfl, q5, rfl⟩
    rw [HEQ.out]
    go_wp2_with fail
    go_ret
    exact ⟨rfl, below_drewN HBx.out _⟩
end Go.Proofs.Ytlflkkigagdilaa
