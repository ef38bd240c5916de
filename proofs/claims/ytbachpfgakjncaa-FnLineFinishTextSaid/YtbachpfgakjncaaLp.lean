/-
  Lines as data: valid, a move, a run of moves; what the two ways to ask for a line's validity have in common. No program in sight.
-/
import Derived.Test.YtbachpfgakjncaaBl
namespace Go.Proofs.Ytbachpfgakjncaa
open Go.RowKit

/-- a line as data: n blocks, m trains -/
structure Ln where
  n : Nat
  N : Nat → Int
  I : Nat → Bool
  O : Nat → Bool
  m : Nat
  T : Nat → Int
/-- f with another value at i -/
def upd {α : Type} (f : Nat → α) (i : Nat) (v : α) (j : Nat) : α := if j = i then v else f j
/-- the i-th train stands on the line, not ahead of the train before it -/
def trOk (x : Ln) (i : Nat) : Bool := inB (x.T i) 0 (2 * x.n) && (decide (i = 0) || decide (x.T i ≤ x.T (i - 1)))
/-- the k-th section has a train just where its block says so -/
def cnOk (x : Ln) (k : Nat) : Bool := decide (cntA x.T (2 * k + 1) x.m = if x.I k = true then 1 else 0)
def vldL (x : Ln) : Bool := inB x.n 1 5 && (decide (x.m ≤ 5) && (allB x.n (posB x.N x.I x.O) && (allB x.m (trOk x) && allB x.n (cnOk x))))
theorem vldL_true {x : Ln} (h : vldL x = true) : 1 ≤ x.n ∧ x.n ≤ 5 ∧ x.m ≤ 5 ∧ (∀ k, k < x.n → posB x.N x.I x.O k = true) ∧ (∀ i, i < x.m → trOk x i = true) ∧ (∀ k, k < x.n → cnOk x k = true) := by
  simp only [vldL, Bool.and_eq_true, inB_true, decide_eq_true_eq, allB_true] at h
  obtain ⟨⟨h1, h2⟩, h3, h4, h5, h6⟩ := h
  exact ⟨by omega, by omega, h3, h4, h5, h6⟩
theorem vldL_sec {x : Ln} (h : inB x.n 1 5 = false) : vldL x = false := by simp [vldL, h]
theorem vldL_many {x : Ln} (h : ¬ x.m ≤ 5) : vldL x = false := by simp [vldL, h]
theorem vldL_pos {x : Ln} (h : allB x.n (posB x.N x.I x.O) = false) : vldL x = false := by simp [vldL, h]
theorem vldL_tr {x : Ln} {i : Nat} (hi : i < x.m) (h : trOk x i = false) : vldL x = false := by simp [vldL, allB_not hi h]
theorem vldL_cn {x : Ln} {k : Nat} (hk : k < x.n) (h : cnOk x k = false) : vldL x = false := by simp [vldL, allB_not hk h]
theorem vldL_po {x : Ln} {k : Nat} (hk : k < x.n) (h : posB x.N x.I x.O k = false) : vldL x = false := vldL_pos (allB_not hk h)
theorem vldL_of {x : Ln} (h1 : inB x.n 1 5 = true) (h2 : x.m ≤ 5) (h3 : ∀ k, k < x.n → posB x.N x.I x.O k = true) (h4 : ∀ i, i < x.m → trOk x i = true) (h5 : ∀ k, k < x.n → cnOk x k = true) : vldL x = true := by
  simp [vldL, h1, h2, allB_of h3, allB_of h4, allB_of h5]

/-- the first of m that stands at a place; m where there is none -/
def fstA (f : Nat → Int) (p : Int) : Nat → Nat
  | 0 => 0
  | m + 1 => if fstA f p m < m then fstA f p m else if f m = p then m else m + 1
theorem fstA_le (f : Nat → Int) (p : Int) : ∀ m, fstA f p m ≤ m
  | 0 => Nat.le_refl _
  | m + 1 => by
    have := fstA_le f p m
    simp only [fstA]
    split
    · omega
    · split <;> omega
theorem fstA_at (f : Nat → Int) (p : Int) : ∀ m, fstA f p m < m → f (fstA f p m) = p
  | 0, h => by omega
  | m + 1, h => by
    have ih := fstA_at f p m
    simp only [fstA] at h ⊢
    split
    · rename_i h1; exact ih h1
    · rename_i h1
      rw [if_neg h1] at h
      split
      · rename_i h2; exact h2
      · rename_i h2; rw [if_neg h2] at h; omega
theorem fstA_none (f : Nat → Int) (p : Int) : ∀ m, (∀ j, j < m → f j ≠ p) → fstA f p m = m
  | 0, _ => rfl
  | m + 1, h => by
    have ih := fstA_none f p m (fun j hj => h j (by omega))
    simp only [fstA, ih, Nat.lt_irrefl, if_false, h m (by omega)]
theorem fstA_stop (f : Nat → Int) (p : Int) {k : Nat} (h : ∀ j, j < k → f j ≠ p) (hk : f k = p) : ∀ m, k < m → fstA f p m = k
  | 0, hm => by omega
  | m + 1, hm => by
    rcases Nat.lt_or_ge k m with h1 | h1
    · have ih := fstA_stop f p h hk m h1
      simp only [fstA, ih, h1, if_true]
    · obtain rfl : k = m := by omega
      simp only [fstA, fstA_none f p k h, Nat.lt_irrefl, if_false, hk, if_true]
/-- one byte as a text -/
def chr (c : UInt8) : ByteArray := ⟨#[c]⟩
def eB (l : ByteArray) : Bool := decide (l = chr 101)
def lB (l : ByteArray) : Bool := decide (l = chr 108)
/-- the place that a train leaves -/
def plI (s : Int) (l : ByteArray) : Int := if eB l = true then 2 * s else if lB l = true then 2 * s + 1 else -1
/-- the number of the state behind a move -/
def mvJ (x : Ln) (s : Int) (l : ByteArray) : Nat := bsI (x.N s.toNat) (x.I s.toNat) (x.O s.toNat) l
def mvOk (x : Ln) (s : Int) (l : ByteArray) : Bool := inB s 0 (x.n - 1) && (decide (mvJ x s l < 5) && (!(eB l || lB l) || decide (fstA x.T (plI s l) x.m < x.m)))
def mvTo (x : Ln) (s : Int) (l : ByteArray) : Ln :=
  { n := x.n, N := upd x.N s.toNat (stB (mvJ x s l)).n, I := upd x.I s.toNat (stB (mvJ x s l)).i, O := upd x.O s.toNat (stB (mvJ x s l)).o, m := x.m,
    T := if (eB l || lB l) = true then upd x.T (fstA x.T (plI s l) x.m) (plI s l + 1) else x.T }
def stepO (x : Ln) (s : Int) (l : ByteArray) : Option Ln := if mvOk x s l = true then some (mvTo x s l) else none
def runO (x : Ln) (M : Nat → Int) (L : Nat → ByteArray) : Nat → Option Ln
  | 0 => some x
  | k + 1 => (runO x M L k).bind fun y => stepO y (M k) (L k)
theorem runO_none {x : Ln} {M : Nat → Int} {L : Nat → ByteArray} {k : Nat} (h : runO x M L k = none) : ∀ q, k ≤ q → runO x M L q = none := by
  intro q hq
  induction q with
  | zero => obtain rfl : k = 0 := by omega
            exact h
  | succ q ih =>
    rcases Nat.lt_or_ge k (q + 1) with h1 | h1
    · simp only [runO, ih (by omega), Option.bind_none]
    · obtain rfl : k = q + 1 := by omega
      exact h
theorem stepO_nm {x y : Ln} {s : Int} {l : ByteArray} (h : stepO x s l = some y) : y.n = x.n ∧ y.m = x.m := by
  unfold stepO at h
  split at h
  · cases h; exact ⟨rfl, rfl⟩
  · cases h
theorem runO_nm {x : Ln} {M : Nat → Int} {L : Nat → ByteArray} : ∀ {k : Nat} {y : Ln}, runO x M L k = some y → y.n = x.n ∧ y.m = x.m
  | 0, y, h => by cases h; exact ⟨rfl, rfl⟩
  | k + 1, y, h => by
    simp only [runO] at h
    cases e : runO x M L k with
    | none => rw [e] at h; cases h
    | some z =>
      rw [e] at h
      have h1 := stepO_nm (x := z) (s := M k) (l := L k) h
      have h2 := runO_nm e
      exact ⟨h1.1.trans h2.1, h1.2.trans h2.2⟩
end Go.Proofs.Ytbachpfgakjncaa
