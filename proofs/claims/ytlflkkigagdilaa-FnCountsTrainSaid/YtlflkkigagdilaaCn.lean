/-
  Counters: the plain functions, and the walks of counts and pulses.
-/
import Derived.Test.YtlflkkigagdilaaSm
import Derived.Test.YtlflkkigagdilaaCl
namespace Go.Proofs.Ytlflkkigagdilaa
open Go.RowKit

/-- the counter of a pulse, and its way -/
def atP (p : Int) : Nat := (if p < 0 then -1 - p else p).toNat
def oneP (p : Int) : Int := if p < 0 then -1 else 1
theorem atP_neg {p : Int} (h : p < 0) : (atP p : Int) = -1 - p := by unfold atP; rw [if_pos h]; omega
theorem atP_pos {p : Int} (h : ¬ p < 0) : (atP p : Int) = p := by unfold atP; rw [if_neg h]; omega
theorem oneP_neg {p : Int} (h : p < 0) : oneP p = -1 := if_pos h
theorem oneP_pos {p : Int} (h : ¬ p < 0) : oneP p = 1 := if_neg h
theorem oneP_bd (p : Int) : -1 ≤ oneP p ∧ oneP p ≤ 1 := by unfold oneP; split <;> omega

theorem ctr_any (n p : Int) (w : World) (hp : -9223372036854775808 ≤ p ∧ p ≤ 9223372036854775807) :
    Calls Try.prog 32 #[.int .i64 n, .int .i64 p] w fun e w' => e = .returned (.tuple #[.int .i64 (atP p), .int .i64 (oneP p), .bool (decide ((atP p : Int) ≤ n))]) ∧ w = w' := by
  obtain ⟨p1, p2⟩ := hp
  by_cases h : p < 0
  · have e1 := atP_neg h
    have e2 := oneP_neg h
    rw [e1, e2]
    clear e1 e2
    go_enter Try.func32, Try.ntmps32
    go_wp2
    go_ret3
    exact ⟨rfl, rfl⟩
  · have e1 := atP_pos h
    have e2 := oneP_pos h
    rw [e1, e2]
    clear e1 e2
    go_enter Try.func32, Try.ntmps32
    go_wp2
    go_ret3
    exact ⟨rfl, rfl⟩

/-- a list is one of counts -/
def cntB (f : Nat → Int) (k : Nat) : Bool := inB (f k) 0 50
def cntsB (n : Nat) (f : Nat → Int) : Bool := allB n (cntB f) && decide (1 ≤ n ∧ n ≤ 8)
theorem cntsB_not {n k : Nat} {f : Nat → Int} (hk : k < n) (h : cntB f k = false) : cntsB n f = false := by unfold cntsB; rw [allB_not hk h]; rfl
theorem cntsB_len {n : Nat} {f : Nat → Int} (h : ¬ (1 ≤ n ∧ n ≤ 8)) : cntsB n f = false := by simp only [cntsB, decide_eq_false h]; simp
theorem cntsB_end {n : Nat} {f : Nat → Int} (h : ∀ k, k < n → cntB f k = true) : cntsB n f = decide (1 ≤ n ∧ n ≤ 8) := by unfold cntsB; rw [allB_of h]; rfl
theorem cntsB_true {n : Nat} {f : Nat → Int} : cntsB n f = true ↔ (1 ≤ n ∧ n ≤ 8) ∧ ∀ k, k < n → 0 ≤ f k ∧ f k ≤ 50 := by
  simp only [cntsB, Bool.and_eq_true, allB_true, decide_eq_true_eq, cntB, inB_true]
  exact ⟨fun h => ⟨h.2, h.1⟩, fun h => ⟨h.2, h.1⟩⟩

theorem specCounts_any (b off n c : Nat) (f : Nat → Int) (w : World) (hn : n ≤ 1000000000000000) (hc : IC w b off n f) :
    Calls Try.prog 42 #[.slice (some ⟨b, off, none⟩) n c] w fun e w' => e = .returned (.bool (cntsB n f)) ∧ w = w' := by
  go_enter Try.func42, Try.ntmps42
  go_wp2
  go_loop [3] (fun i => ∃ k : Nat, k ≤ n ∧ i = .int .i64 k ∧ ∀ j, j < k → cntB f j = true) (fun i => n - (intOf i).toNat)
  case atStart => exact ⟨0, Nat.zero_le _, rfl, fun j hj => by omega⟩
  case round =>
    obtain ⟨k, hk, rfl, hall⟩ := hrel
    have HA := Lib.hid hall
    clear hall
    have hck := hc.at k
    by_cases hlt : k < n
    · cases hr : cntB f k
      · have hr' : inB (f k) 0 50 = false := hr
        have HR := Lib.hid hr
        clear hr
        go_wp2_with (go_at_call 33; refine (l6In_any _ _ _ _).mono ?_; rintro e w' ⟨rfl, rfl⟩)
        go_ret
        exact ⟨retB (cntsB_not hlt HR.out).symm, rfl⟩
      · have hr' : inB (f k) 0 50 = true := hr
        have HR := Lib.hid hr
        clear hr
        go_wp2_with (go_at_call 33; refine (l6In_any _ _ _ _).mono ?_; rintro e w' ⟨rfl, rfl⟩)
        go_round
        case rel => exact ⟨k + 1, by omega, by go_num, fun j hj => by
          by_cases e : j = k
          · rw [e]; exact HR.out
          · exact HA.out j (by omega)⟩
        case measure => simp [intOf]; omega
    · have e : k = n := by omega
      subst e
      go_wp2_with (go_at_call 33; refine (l6In_any _ _ _ _).mono ?_; rintro e w' ⟨rfl, rfl⟩)
      go_ret
      exact ⟨retB (by rw [cntsB_end HA.out]; unfold inB; rw [Bool.eq_iff_iff]; simp; omega), rfl⟩

theorem implCounts_any (b off n c : Nat) (f : Nat → Int) (w : World) (hn : n ≤ 1000000000000000) (hc : IC w b off n f) :
    Calls Try.prog 34 #[.slice (some ⟨b, off, none⟩) n c] w fun e w' => e = .returned (.bool (cntsB n f)) ∧ w = w' := by
  by_cases h8 : 1 ≤ n ∧ n ≤ 8
  · obtain ⟨g1, g2⟩ := h8
    have h0 : ((n : Int) == 0) = false := by simp; omega
    go_enter Try.func34, Try.ntmps34
    go_wp2
    go_loop [4, 15] (fun _ i => ∃ k : Nat, k ≤ n ∧ i = .int .i64 k ∧ ∀ j, j < k → cntB f j = true) (fun _ i => n - (intOf i).toNat)
    case atStart => exact ⟨0, Nat.zero_le _, rfl, fun j hj => by omega⟩
    case round =>
      obtain ⟨k, hk, rfl, hall⟩ := hrel
      have HA := Lib.hid hall
      clear hall
      have hck := hc.at k
      by_cases hlt : k < n
      · by_cases h1 : f k < 0
        · go_wp2
          go_ret
          exact ⟨retB (cntsB_not hlt (inB_false.2 (by omega))).symm, rfl⟩
        · by_cases h2 : 50 < f k
          · go_wp2
            go_ret
            exact ⟨retB (cntsB_not hlt (inB_false.2 (by omega))).symm, rfl⟩
          · go_wp2
            go_round
            case rel => exact ⟨k + 1, by omega, by go_num, fun j hj => by
              by_cases e : j = k
              · rw [e]; exact inB_true.2 (by omega)
              · exact HA.out j (by omega)⟩
            case measure => simp [intOf]; omega
      · have e : k = n := by omega
        subst e
        go_wp2
        go_ret
        exact ⟨retB (by rw [cntsB_end HA.out]; simp; omega), rfl⟩
  · have HF : Hid (cntsB n f = false) := cntsB_len h8
    by_cases h0 : n = 0
    · subst h0
      go_enter Try.func34, Try.ntmps34
      go_wp2
      go_ret
      exact ⟨retB HF.out.symm, rfl⟩
    · have h0' : ((n : Int) == 0) = false := by simp; omega
      have h9 : 8 < n := by omega
      clear h0 h8
      go_enter Try.func34, Try.ntmps34
      go_wp2
      go_ret
      exact ⟨retB HF.out.symm, rfl⟩

/-- counts behind a pulse -/
def stepC (f : Nat → Int) (p : Int) (j : Nat) : Int := f j + (if j = atP p then oneP p else 0) - (if j + 1 = atP p then oneP p else 0)
def pulB (n : Nat) (f : Nat → Int) (p : Int) : Bool := decide (atP p ≤ n) && cntsB n (stepC f p)
theorem pulB_no {n : Nat} {f : Nat → Int} {p : Int} (h : ¬ atP p ≤ n) : pulB n f p = false := by simp only [pulB, decide_eq_false h]; rfl
theorem pulB_yes {n : Nat} {f : Nat → Int} {p : Int} (h : atP p ≤ n) : pulB n f p = cntsB n (stepC f p) := by simp only [pulB, decide_eq_true h]; rfl

/-- a row with two neighbours changed -/
theorem own_step {w : World} {g c n : Nat} {f : Nat → Int} {p : Int} (h : Own w g c n 1 3 (fun i => .int .i64 (f i))) (ha : 0 < atP p) :
    Own ((w.setCell ⟨g, atP p, none⟩ (.int .i64 (f (atP p) + oneP p))).setCell ⟨g, atP p - 1, none⟩ (.int .i64 (f (atP p - 1) - oneP p))) g c n 1 3 (fun i => .int .i64 (stepC f p i)) :=
  ((h.set _ _).set _ _).congr fun i hi => by
    unfold stepC
    by_cases h1 : i = atP p - 1
    · subst h1
      rw [if_pos rfl, if_neg (by omega), if_pos (by omega)]
      simp
    · rw [if_neg h1]
      by_cases h2 : i = atP p
      · subst h2
        rw [if_pos rfl, if_pos rfl, if_neg (by omega)]
        simp
      · rw [if_neg h2, if_neg h2, if_neg (by omega)]
        simp
theorem own_step0 {w : World} {g c n : Nat} {f : Nat → Int} {p : Int} (h : Own w g c n 1 3 (fun i => .int .i64 (f i))) (ha : atP p = 0) :
    Own (w.setCell ⟨g, 0, none⟩ (.int .i64 (f 0 + oneP p))) g c n 1 3 (fun i => .int .i64 (stepC f p i)) :=
  (h.set _ _).congr fun i hi => by
    unfold stepC
    rw [ha]
    by_cases h2 : i = 0
    · subst h2
      simp
    · rw [if_neg h2, if_neg h2]
      simp
theorem own_stepN {w : World} {g c n : Nat} {f : Nat → Int} {p : Int} (h : Own w g c n 1 3 (fun i => .int .i64 (f i))) (ha : atP p = n) (hn : 0 < n) :
    Own (w.setCell ⟨g, n - 1, none⟩ (.int .i64 (f (n - 1) - oneP p))) g c n 1 3 (fun i => .int .i64 (stepC f p i)) :=
  (h.set _ _).congr fun i hi => by
    unfold stepC
    rw [ha]
    by_cases h1 : i = n - 1
    · subst h1
      rw [if_pos rfl, if_neg (by omega), if_pos (by omega)]
      simp
    · rw [if_neg h1, if_neg (by omega), if_neg (by omega)]
      simp

set_option maxHeartbeats 1000000 in
theorem pulsed_any (g c n : Nat) (f : Nat → Int) (p : Int) (w : World) (hn : 1 ≤ n ∧ n ≤ 8) (hp : -9223372036854775808 ≤ p ∧ p ≤ 9223372036854775807) (hf : ∀ k, k < n → 0 ≤ f k ∧ f k ≤ 50) (ho : Own w g c n 1 3 (fun i => .int .i64 (f i))) :
    Calls Try.prog 36 #[.slice (some ⟨g, 0, none⟩) n c, .int .i64 p] w fun e w' => e = .returned (.bool (pulB n f p)) ∧ (pulB n f p = true → Own w' g c n 1 3 (fun i => .int .i64 (stepC f p i))) ∧ w.grownBy w' (some g) := by
  have hob := oneP_bd p
  obtain ⟨n1, n2⟩ := hn
  have hG := fun o v => grownBy_setCell w g o v
  have hfr := fun i => ho.free i
  by_cases ha : atP p ≤ n
  · have HP := Lib.hid (pulB_yes (f := f) ha)
    by_cases h1 : atP p = n
    · have HS := Lib.hid (own_stepN ho h1 (by omega))
      have hc0 := ho.cell1 (i := n - 1) (by omega)
      have hfk := hf (n - 1) (by omega)
      have HC := Lib.hid (ctr_any n p w hp)
      rw [h1] at HC
      have HG := Lib.hid hG
      clear hG ho h1 hf ha
      go_enter Try.func36, Try.ntmps36
      go_wp2_with fail
      refine (HC.out).mono ?_
      rintro e w' ⟨rfl, rfl⟩
      go_wp2_with fail
      refine (implCounts_any _ _ _ _ _ _ (by omega) (IC.of_own HS.out)).mono ?_
      rintro e w' ⟨rfl, rfl⟩
      go_wp2_with fail
      go_ret
      exact ⟨retB HP.out.symm, fun _ => HS.out, HG.out _ _⟩
    · by_cases h0 : atP p = 0
      · have HS := Lib.hid (own_step0 ho h0)
        have hc0 := ho.cell1 (i := 0) (by omega)
        have hfk := hf 0 (by omega)
        have HC := Lib.hid (ctr_any n p w hp)
        rw [h0] at HC
        have HG := Lib.hid hG
        clear hG ho h0 h1 hf ha
        go_enter Try.func36, Try.ntmps36
        go_wp2_with fail
        refine (HC.out).mono ?_
        rintro e w' ⟨rfl, rfl⟩
        go_wp2_with fail
        refine (implCounts_any _ _ _ _ _ _ (by omega) (IC.of_own HS.out)).mono ?_
        rintro e w' ⟨rfl, rfl⟩
        go_wp2_with fail
        go_ret
        exact ⟨retB HP.out.symm, fun _ => HS.out, HG.out _ _⟩
      · have HS := Lib.hid (own_step (p := p) ho (by omega))
        have hc0 := ho.cell1 (i := atP p) (by omega)
        have hc1 := ho.cell1 (i := atP p - 1) (by omega)
        have hfk := hf (atP p) (by omega)
        have hfk1 := hf (atP p - 1) (by omega)
        have HC := Lib.hid (ctr_any n p w hp)
        have HG : Hid (∀ o v o' v', w.grownBy ((w.setCell ⟨g, o, none⟩ v).setCell ⟨g, o', none⟩ v') (some g)) := fun o v o' v' => grownBy_trans (grownBy_setCell _ _ _ _) (grownBy_setCell _ _ _ _)
        have ha' : atP p < n := by omega
        have ha0 : 0 < atP p := by omega
        rw [decide_eq_true (show (atP p : Int) ≤ n by omega)] at HC
        clear hG ho h0 h1 hf ha
        go_enter Try.func36, Try.ntmps36
        go_wp2_with fail
        refine (HC.out).mono ?_
        rintro e w' ⟨rfl, rfl⟩
        go_wp2_with fail
        refine (implCounts_any _ _ _ _ _ _ (by omega) (IC.of_own HS.out)).mono ?_
        rintro e w' ⟨rfl, rfl⟩
        go_wp2_with fail
        go_ret
        exact ⟨retB HP.out.symm, fun _ => HS.out, HG.out _ _ _ _⟩
  · have HP := Lib.hid (pulB_no (f := f) ha)
    have HC := Lib.hid (ctr_any n p w hp)
    have hd : decide ((atP p : Int) ≤ n) = false := decide_eq_false (by omega)
    rw [hd] at HC
    clear ha hd
    go_enter Try.func36, Try.ntmps36
    go_wp2_with fail
    refine (HC.out).mono ?_
    rintro e w' ⟨rfl, rfl⟩
    go_wp2_with fail
    go_ret
    exact ⟨retB HP.out.symm, (fun h => by rw [HP.out] at h; cases h), World.grownBy.refl _ _⟩
end Go.Proofs.Ytlflkkigagdilaa
