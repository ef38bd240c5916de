/-
  Walks of the smallest helpers.
-/
import Derived.Test.YtlflkkigagdilaaBase
namespace Go.Proofs.Ytlflkkigagdilaa
open Go.RowKit

theorem l6In_any (n lo hi : Int) (w : World) :
    Calls Try.prog 33 #[.int .i64 n, .int .i64 lo, .int .i64 hi] w fun e w' => e = .returned (.bool (inB n lo hi)) ∧ w = w' := by
  go_enter Try.func33, Try.ntmps33
  go_wp2
  all_goals go_ret
  all_goals exact ⟨retB (by simp only [inB]; simp; omega), rfl⟩

/-- what is left behind a size -/
def szV (left : Int) (n : Nat) : Int := if left - n < 0 then -1 else left - n
theorem szV_neg {left : Int} {n : Nat} (h : left - n < 0) : szV left n = -1 := if_pos h
theorem szV_pos {left : Int} {n : Nat} (h : ¬ left - n < 0) : szV left n = left - n := if_neg h

/-- the ready times are valid from an earliest time on: k is the place -/
def rdB (f : Nat → Int) (k : Nat) : Bool := inB (f k) (if k = 0 then 0 else f (k - 1)) 2000
def prev0 (f : Nat → Int) (k : Nat) : Int := if k = 0 then 0 else f (k - 1)
theorem prev0_succ (f : Nat → Int) (k : Nat) : prev0 f (k + 1) = f k := by simp [prev0]

/-- the ready times of one end are valid -/
def rdy (n : Nat) (f : Nat → Int) : Bool := allB n (rdB f) && decide (n ≤ 6)
theorem rdy_not {n k : Nat} {f : Nat → Int} (hk : k < n) (h : rdB f k = false) : rdy n f = false := by unfold rdy; rw [allB_not hk h]; rfl
theorem rdy_long {n : Nat} {f : Nat → Int} (h : ¬ n ≤ 6) : rdy n f = false := by simp [rdy, h]
theorem rdy_end {n : Nat} {f : Nat → Int} (h : ∀ k, k < n → rdB f k = true) : rdy n f = decide (n ≤ 6) := by unfold rdy; rw [allB_of h]; rfl

/-- eqIntS: two slices agree -/
def eqB (f g : Nat → Int) (k : Nat) : Bool := f k == g k
def eqSl (n n' : Nat) (f g : Nat → Int) : Bool := decide (n = n') && allB n (eqB f g)
theorem eqSl_true {n n' : Nat} {f g : Nat → Int} : eqSl n n' f g = true ↔ n = n' ∧ ∀ k, k < n → f k = g k := by
  simp [eqSl, allB_true, eqB]
theorem eqSl_ne {n n' : Nat} {f g : Nat → Int} (h : n ≠ n') : eqSl n n' f g = false := by simp [eqSl, h]
theorem eqSl_at {n k : Nat} {f g : Nat → Int} (hk : k < n) (h : f k ≠ g k) : eqSl n n f g = false := by
  unfold eqSl
  rw [allB_not hk (by simp [eqB, h])]
  simp
/-- a slice value that reads as n numbers f; where n is 0 it may be nil -/
def SL (w : World) (v : Value) (n : Nat) (f : Nat → Int) : Prop :=
  (∃ b o c, v = .slice (some ⟨b, o, none⟩) n c ∧ IC w b o n f) ∨ (n = 0 ∧ ∃ ao c, v = .slice ao 0 c)
theorem SL.nil {w : World} {f : Nat → Int} : SL w (.slice none 0 0) 0 f := .inr ⟨rfl, _, _, rfl⟩
theorem SL.keep {w w' : World} {v : Value} {n : Nat} {f : Nat → Int} (h : SL w v n f) (hb : Below w.heap.size w w') : SL w' v n f := by
  rcases h with ⟨b, o, c, e, h⟩ | h
  · exact .inl ⟨b, o, c, e, h.keep hb⟩
  · exact .inr h

theorem SL.shape {w : World} {v : Value} {n : Nat} {f : Nat → Int} (h : SL w v n f) : ∃ ao c, v = .slice ao n c := by
  rcases h with ⟨b, o, c, e, _⟩ | ⟨rfl, ao, c, e⟩
  · exact ⟨_, _, e⟩
  · exact ⟨_, _, e⟩
/-- sums -/
def sumTo (f : Nat → Int) : Nat → Int
  | 0 => 0
  | k + 1 => sumTo f k + f k
theorem sumTo_bd (f : Nat → Int) (m : Int) (h : ∀ k, -m ≤ f k ∧ f k ≤ m) (k : Nat) : -(m * k) ≤ sumTo f k ∧ sumTo f k ≤ m * k := by
  induction k with
  | zero => simp [sumTo]
  | succ k ih =>
    have := h k
    have e : m * ((k + 1 : Nat) : Int) = m * k + m := by rw [Int.natCast_add, Int.mul_add]; simp
    simp only [sumTo]; rw [e]; omega
theorem sumTo_bd' (f : Nat → Int) (m : Int) (n : Nat) (h : ∀ k, k < n → -m ≤ f k ∧ f k ≤ m) (k : Nat) (hk : k ≤ n) : -(m * k) ≤ sumTo f k ∧ sumTo f k ≤ m * k := by
  induction k with
  | zero => simp [sumTo]
  | succ k ih =>
    have := h k (by omega)
    have := ih (by omega)
    have e : m * ((k + 1 : Nat) : Int) = m * k + m := by rw [Int.natCast_add, Int.mul_add]; simp
    simp only [sumTo]; rw [e]; omega

end Go.Proofs.Ytlflkkigagdilaa
