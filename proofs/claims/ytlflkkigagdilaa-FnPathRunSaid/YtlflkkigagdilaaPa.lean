/-
  Walks on paths: valid, stands; program and reference.
-/
import Derived.Test.YtlflkkigagdilaaSm
namespace Go.Proofs.Ytlflkkigagdilaa
open Go.RowKit

/-- a path as data -/
structure Pt where
  I : Nat → Int
  ni : Nat
  O : Nat → Int
  no : Nat
/-- the time ahead of place k -/
def prO (p : Pt) (k : Nat) : Int := if k = 0 then 0 else p.O (k - 1)
theorem prO_succ (p : Pt) (k : Nat) : prO p (k + 1) = p.O k := by simp [prO]
def vkB (p : Pt) (k : Nat) : Bool := decide (prO p k ≤ p.I k) && (decide (p.I k < p.O k) && decide (p.O k ≤ 2000))
theorem vkB_true {p : Pt} {k : Nat} : vkB p k = true ↔ prO p k ≤ p.I k ∧ p.I k < p.O k ∧ p.O k ≤ 2000 := by simp [vkB]
theorem vkB_false {p : Pt} {k : Nat} (h : ¬ (prO p k ≤ p.I k ∧ p.I k < p.O k ∧ p.O k ≤ 2000)) : vkB p k = false := by
  cases e : vkB p k
  · rfl
  · exact absurd (vkB_true.1 e) h
def ptOk (p : Pt) (n : Int) : Bool := inB n 1 5 && (decide ((p.ni : Int) = n) && (decide ((p.no : Int) = n) && allB p.ni (vkB p)))
theorem ptOk_n {p : Pt} {n : Int} (h : inB n 1 5 = false) : ptOk p n = false := by simp [ptOk, h]
theorem ptOk_i {p : Pt} {n : Int} (h : ¬ (p.ni : Int) = n) : ptOk p n = false := by simp [ptOk, h]
theorem ptOk_o {p : Pt} {n : Int} (h : ¬ (p.no : Int) = n) : ptOk p n = false := by simp [ptOk, h]
theorem ptOk_k {p : Pt} {n : Int} {k : Nat} (hk : k < p.ni) (h : vkB p k = false) : ptOk p n = false := by simp [ptOk, allB_not hk h]
theorem ptOk_yes {p : Pt} {n : Int} (h : inB n 1 5 = true) (h1 : (p.ni : Int) = n) (h2 : (p.no : Int) = n) (h3 : ∀ k, k < p.ni → vkB p k = true) : ptOk p n = true := by
  simp [ptOk, h, h1, h2, allB_of h3]
theorem ptOk_parts {p : Pt} {n : Int} (h : ptOk p n = true) : (1 ≤ n ∧ n ≤ 5) ∧ (p.ni : Int) = n ∧ (p.no : Int) = n ∧ ∀ k, k < p.ni → vkB p k = true := by
  simp only [ptOk, Bool.and_eq_true, decide_eq_true_eq] at h
  exact ⟨inB_true.1 h.1, h.2.1, h.2.2.1, allB_true.1 h.2.2.2⟩
/-- all times of a path are in their range -/
theorem vk_bd {p : Pt} : ∀ k, (∀ j, j < k → vkB p j = true) → 0 ≤ prO p k ∧ prO p k ≤ 2000
  | 0, _ => by simp [prO]
  | k + 1, h => by
    have ih := vk_bd k (fun j hj => h j (by omega))
    have h1 := vkB_true.1 (h k (by omega))
    rw [prO_succ]
    omega

theorem sectionsValid_any (n : Int) (w : World) (_hn : -9223372036854775808 ≤ n ∧ n ≤ 9223372036854775807) :
    Calls Try.prog 48 #[.int .i64 n] w fun e w' => e = .returned (.bool (inB n 1 5)) ∧ w = w' := by
  by_cases h : 1 ≤ n
  · have g : decide (1 ≤ n) = true := decide_eq_true h
    have H : Hid (inB n 1 5 = decide (n ≤ 5)) := by show _ = _; unfold inB; rw [g]; rfl
    go_enter Try.func48, Try.ntmps48
    go_wp2
    go_ret
    exact ⟨retB (by rw [H.out]), rfl⟩
  · have g : decide (1 ≤ n) = false := decide_eq_false h
    have H : Hid (inB n 1 5 = false) := by show _ = _; unfold inB; rw [g]; rfl
    go_enter Try.func48, Try.ntmps48
    go_wp2
    go_ret
    exact ⟨retB (by rw [H.out]), rfl⟩

/-- the box of a path, and its rows -/
structure PtB (w : World) (b : Nat) (p : Pt) (bi oi ci bo oo co : Nat) : Prop where
  c0 : w.cell? ⟨b, 0, none⟩ = some (.slice (some ⟨bi, oi, none⟩) p.ni ci)
  c1 : w.cell? ⟨b, 1, none⟩ = some (.slice (some ⟨bo, oo, none⟩) p.no co)
  I : IC w bi oi p.ni p.I
  O : IC w bo oo p.no p.O
theorem PtB.drewN {w : World} {b : Nat} {p : Pt} {bi oi ci bo oo co : Nat} (h : PtB w b p bi oi ci bo oo co) (q : Nat) : PtB (w.drewN q) b p bi oi ci bo oo co := ⟨h.c0, h.c1, h.I, h.O⟩
theorem PtB.keep {w w' : World} {b : Nat} {p : Pt} {bi oi ci bo oo co : Nat} (h : PtB w b p bi oi ci bo oo co) (hb : Below w.heap.size w w') : PtB w' b p bi oi ci bo oo co :=
  ⟨by rw [hb.cell (p := ⟨b, 0, none⟩) (World.block_lt_of_cell? w ⟨b, 0, none⟩ h.c0)]; exact h.c0, by rw [hb.cell (p := ⟨b, 1, none⟩) (World.block_lt_of_cell? w ⟨b, 1, none⟩ h.c1)]; exact h.c1, h.I.keep hb, h.O.keep hb⟩

set_option maxHeartbeats 2000000 in
theorem valid_any (b : Nat) (p : Pt) (n : Int) (bi oi ci bo oo co : Nat) (w : World) (hp : PtB w b p bi oi ci bo oo co) (hni : p.ni ≤ 1000000) (hno : p.no ≤ 1000000) (hn : -9223372036854775808 ≤ n ∧ n ≤ 9223372036854775807) :
    Calls Try.prog 38 #[.pointer (some ⟨b, 0, none⟩), .int .i64 n] w fun e w' => e = .returned (.bool (ptOk p n)) ∧ Dr w w' := by
  have HN := Lib.hid hn
  have HP := Lib.hid hp
  have c0 := hp.c0
  have c1 := hp.c1
  clear hp
  cases hin : inB n 1 5
  · have HI := Lib.hid hin
    clear hin
    go_enter Try.func38, Try.ntmps38
    go_wp2_with fail
    refine (sectionsValid_any n _ HN.out).mono ?_
    rintro e w' ⟨rfl, rfl⟩
    rw [HI.out]
    go_wp2_with fail
    go_ret
    exact ⟨retB (ptOk_n HI.out).symm, Dr.refl _⟩
  have hin2 := inB_true.1 hin
  have HI := Lib.hid hin
  obtain ⟨n, rfl⟩ := Int.eq_ofNat_of_zero_le (show 0 ≤ n by omega)
  clear hin hn
  by_cases h1 : ¬ p.ni = n
  · have g1 : ((p.ni : Int) != (n : Int)) = true := by simp; omega
    have HR : Hid (ptOk p n = false) := ptOk_i (by omega)
    clear h1
    go_enter Try.func38, Try.ntmps38
    go_wp2_with fail
    refine (sectionsValid_any n _ HN.out).mono ?_
    rintro e w' ⟨rfl, rfl⟩
    rw [HI.out]
    go_wp2_with fail
    go_ret
    exact ⟨retB HR.out.symm, Dr.refl _⟩
  replace h1 := Decidable.not_not.1 h1
  by_cases h2 : ¬ p.no = n
  · have g1 : ((p.ni : Int) != (n : Int)) = false := by simp; omega
    have g2 : ((p.no : Int) != (n : Int)) = true := by simp; omega
    have HR : Hid (ptOk p n = false) := ptOk_o (by omega)
    clear h1 h2
    go_enter Try.func38, Try.ntmps38
    go_wp2_with fail
    refine (sectionsValid_any n _ HN.out).mono ?_
    rintro e w' ⟨rfl, rfl⟩
    rw [HI.out]
    go_wp2_with fail
    go_ret
    exact ⟨retB HR.out.symm, Dr.refl _⟩
  replace h2 := Decidable.not_not.1 h2
  obtain ⟨I, ni, O, no⟩ := p
  simp only at h1 h2 c0 c1 hni hno
  subst h1
  obtain rfl : ni = no := h2.symm
  have gn : ((ni : Int) != (ni : Int)) = false := by simp
  go_enter Try.func38, Try.ntmps38
  go_wp2_with fail
  refine (sectionsValid_any _ _ HN.out).mono ?_
  rintro e w' ⟨rfl, rfl⟩
  rw [HI.out]
  go_wp2_with fail
  go_loopw [5, 29] (fun l i wr => ∃ k : Nat, k ≤ ni ∧ i = .int .i64 k ∧ l = .int .i64 (prO ⟨I, ni, O, ni⟩ k) ∧ Hid (∀ j, j < k → vkB ⟨I, ni, O, ni⟩ j = true) ∧ Dr w wr) (fun _ i _ => ni - (intOf i).toNat)
  case atStart => exact ⟨0, Nat.zero_le _, rfl, rfl, (fun j hj => by omega), Dr.refl _⟩
  case round =>
    obtain ⟨k, hk, rfl, rfl, HA, q, rfl⟩ := hrel
    by_cases hlt : k < ni
    · have hcI := HP.out.I.at k hlt
      have hcO := HP.out.O.at k hlt
      simp only at hcI hcO
      by_cases a1 : I k < prO ⟨I, ni, O, ni⟩ k
      · have HF : Hid (ptOk ⟨I, ni, O, ni⟩ ni = false) := ptOk_k hlt (vkB_false (fun h => by have := h.1; simp only at this; omega))
        have d1 : decide (I k < prO ⟨I, ni, O, ni⟩ k) = true := decide_eq_true a1
        clear a1
        go_wp2_with fail
        go_quiet (fail)
        go_wp2_with fail
        go_ret
        exact ⟨retB HF.out.symm, (by repeat (first | exact Dr.refl _ | exact ⟨_, rfl⟩ | refine Dr.drewN ?_ _))⟩
      have d1 : decide (I k < prO ⟨I, ni, O, ni⟩ k) = false := decide_eq_false a1
      by_cases a2 : O k ≤ I k
      · have HF : Hid (ptOk ⟨I, ni, O, ni⟩ ni = false) := ptOk_k hlt (vkB_false (fun h => by have := h.2.1; simp only at this; omega))
        have d2 : decide (O k ≤ I k) = true := decide_eq_true a2
        clear a2 a1
        go_wp2_with fail
        go_quiet (fail)
        go_wp2_with fail
        go_ret
        exact ⟨retB HF.out.symm, (by repeat (first | exact Dr.refl _ | exact ⟨_, rfl⟩ | refine Dr.drewN ?_ _))⟩
      have d2 : decide (O k ≤ I k) = false := decide_eq_false a2
      by_cases a3 : 2000 < O k
      · have HF : Hid (ptOk ⟨I, ni, O, ni⟩ ni = false) := ptOk_k hlt (vkB_false (fun h => by have := h.2.2; simp only at this; omega))
        have d3 : decide (2000 < O k) = true := decide_eq_true a3
        clear a3 a2 a1
        go_wp2_with fail
        go_quiet (fail)
        go_wp2_with fail
        go_ret
        exact ⟨retB HF.out.symm, (by repeat (first | exact Dr.refl _ | exact ⟨_, rfl⟩ | refine Dr.drewN ?_ _))⟩
      have d3 : decide (2000 < O k) = false := decide_eq_false a3
      have HV : Hid (vkB ⟨I, ni, O, ni⟩ k = true) := vkB_true.2 (by simp only; omega)
      have HA2 : Hid (∀ j, j < k + 1 → vkB ⟨I, ni, O, ni⟩ j = true) := fun j hj => by
        by_cases e : j = k
        · rw [e]; exact HV.out
        · exact HA.out j (by omega)
      have HS : Hid (prO ⟨I, ni, O, ni⟩ (k + 1) = O k) := prO_succ _ _
      clear a1 a2 a3
      go_wp2_with fail
      go_quiet (fail)
      go_wp2_with fail
      go_roundw
      case rel => exact ⟨k + 1, by omega, by go_num, by rw [HS.out], HA2, (by repeat (first | exact Dr.refl _ | exact ⟨_, rfl⟩ | refine Dr.drewN ?_ _))⟩
      case measure => simp [intOf]; omega
    · obtain rfl : k = ni := by omega
      have HT : Hid (ptOk ⟨I, k, O, k⟩ k = true) := ptOk_yes HI.out rfl rfl HA.out
      go_wp2_with fail
      go_ret
      exact ⟨retB HT.out.symm, (by repeat (first | exact Dr.refl _ | exact ⟨_, rfl⟩ | refine Dr.drewN ?_ _))⟩
end Go.Proofs.Ytlflkkigagdilaa
