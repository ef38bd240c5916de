/-
  Plain counts of a train.
-/
import Derived.Test.YtlflkkigagdilaaCt
namespace Go.Proofs.Ytlflkkigagdilaa
open Go.RowKit

/-- counts where k counters are behind all axles and i axles are past the next one -/
def runS (a k i j : Nat) : Int := (if j = k then (i : Int) else 0) + (if j + 1 = k then (a : Int) - i else 0)
def zeroF (_ : Nat) : Int := 0
theorem step_tra {f : Nat → Int} {q j : Nat} : stepC f (q : Int) j = f j + (if j = q then 1 else 0) - (if j + 1 = q then 1 else 0) := by
  unfold stepC
  rw [atP_cast, oneP_cast]
theorem run_row (a k : Nat) (h0 : ∀ j, runF zeroF (traF a) (k * a) j = runS a k 0 j) : ∀ i, i ≤ a → ∀ j, runF zeroF (traF a) (k * a + i) j = runS a k i j
  | 0, _, j => h0 j
  | i + 1, hi, j => by
    have ih := run_row a k h0 i (by omega)
    show stepC (runF zeroF (traF a) (k * a + i)) (traF a (k * a + i)) j = _
    rw [traF_at rfl (by omega), step_tra, ih]
    unfold runS
    repeat' split
    all_goals omega
theorem run_at (a : Nat) : ∀ k i, i ≤ a → ∀ j, runF zeroF (traF a) (k * a + i) j = runS a k i j
  | 0, i, hi, j => run_row a 0 (fun j => by
      rw [Nat.zero_mul]
      show (0 : Int) = _
      unfold runS
      repeat' split
      all_goals omega) i hi j
  | k + 1, i, hi, j => run_row a (k + 1) (fun j => by
      rw [len_succ, run_at a k a (Nat.le_refl _)]
      unfold runS
      repeat' split
      all_goals omega) i hi j
theorem runS_bd {a k i j : Nat} (hi : i ≤ a) (ha : a ≤ 50) : 0 ≤ runS a k i j ∧ runS a k i j ≤ 50 := by
  unfold runS
  repeat' split
  all_goals omega
theorem div_row {a t : Nat} (ha : 0 < a) : t = t / a * a + t % a ∧ t % a < a := by
  have h1 := Nat.div_add_mod t a
  have h2 := Nat.mod_lt t ha
  rw [Nat.mul_comm] at h1
  exact ⟨h1.symm, h2⟩
theorem div_le_n {a t n : Nat} (h : t < (n + 1) * a) : t / a ≤ n := by
  have := Nat.div_lt_of_lt_mul (by rw [Nat.mul_comm] at h; exact h)
  omega
theorem cntsB_zero {n : Nat} (hn : 1 ≤ n ∧ n ≤ 8) : cntsB n zeroF = true := cntsB_true.2 ⟨hn, fun k _ => by unfold zeroF; omega⟩
theorem run_ok {n a m : Nat} (hn : 1 ≤ n ∧ n ≤ 8) (ha : 1 ≤ a ∧ a ≤ 50) (hm : m ≤ (n + 1) * a) : runOk n zeroF m (traF a) = true :=
  runOk_true.2 ⟨cntsB_zero hn, fun t ht => by
    obtain ⟨h1, h2⟩ := div_row (a := a) (t := t) (by omega)
    have h3 := div_le_n (n := n) (show t < (n + 1) * a by omega)
    unfold runB
    have e : traF a t = ((t / a : Nat) : Int) := rfl
    rw [pulB_yes (by rw [e, atP_cast]; exact h3)]
    refine cntsB_true.2 ⟨hn, fun j _ => ?_⟩
    show 0 ≤ runF zeroF (traF a) (t + 1) j ∧ runF zeroF (traF a) (t + 1) j ≤ 50
    rw [show t + 1 = t / a * a + (t % a + 1) from by omega, run_at a _ _ (by omega)]
    exact runS_bd (by omega) ha.2⟩
theorem run_end {n a j : Nat} (hj : j < n) : runF zeroF (traF a) ((n + 1) * a) j = zeroF j := by
  rw [len_succ, run_at a n a (Nat.le_refl _)]
  unfold runS zeroF
  repeat' split
  all_goals omega
theorem run_mid (a k j : Nat) : runF zeroF (traF a) ((k + 1) * a) j = if j = k then (a : Int) else 0 := by
  rw [len_succ, run_at a k a (Nat.le_refl _)]
  unfold runS
  repeat' split
  all_goals omega
/-- net numbers of the same -/
def netS (a k i j : Nat) : Int := if j < k then (a : Int) else if j = k then (i : Int) else 0
theorem net_row (a k : Nat) (h0 : ∀ j, netF (traF a) (k * a) j = netS a k 0 j) : ∀ i, i ≤ a → ∀ j, netF (traF a) (k * a + i) j = netS a k i j
  | 0, _, j => h0 j
  | i + 1, hi, j => by
    have ih := net_row a k h0 i (by omega)
    show netF (traF a) (k * a + i) j + (if j = atP (traF a (k * a + i)) then oneP (traF a (k * a + i)) else 0) = _
    rw [traF_at rfl (by omega), atP_cast, oneP_cast, ih]
    unfold netS
    repeat' split
    all_goals omega
theorem net_at (a : Nat) : ∀ k i, i ≤ a → ∀ j, netF (traF a) (k * a + i) j = netS a k i j
  | 0, i, hi, j => net_row a 0 (fun j => by
      rw [Nat.zero_mul]
      show (0 : Int) = _
      unfold netS
      repeat' split
      all_goals omega) i hi j
  | k + 1, i, hi, j => net_row a (k + 1) (fun j => by
      rw [len_succ, net_at a k a (Nat.le_refl _)]
      unfold netS
      repeat' split
      all_goals omega) i hi j
theorem net_end {n a j : Nat} (hj : j < n + 1) : netF (traF a) ((n + 1) * a) j = (a : Int) := by
  rw [len_succ, net_at a n a (Nat.le_refl _)]
  unfold netS
  repeat' split
  all_goals omega
theorem net_ok {n a : Nat} (hn : 1 ≤ n ∧ n ≤ 8) : netOk n ((n + 1) * a) (traF a) = true :=
  netOk_true.2 ⟨hn, fun t ht => by
    have e : traF a t = ((t / a : Nat) : Int) := rfl
    rw [e, atP_cast]
    exact div_le_n ht⟩
theorem traF_bd {n a t : Nat} (hn : n ≤ 8) (ht : t < (n + 1) * a) : 0 ≤ traF a t ∧ traF a t ≤ 8 := by
  have h := div_le_n ht
  unfold traF
  generalize t / a = q at *
  omega
end Go.Proofs.Ytlflkkigagdilaa
