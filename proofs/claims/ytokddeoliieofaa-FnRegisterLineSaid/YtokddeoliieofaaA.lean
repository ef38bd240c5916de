/-
  Walks of the smallest helpers.
-/
import Derived.Test.YtokddeoliieofaaBase
namespace Go.Proofs.Ytokddeoliieofaa
open Go.RowKit

theorem l6In_any (n lo hi : Int) (w : World) :
    Calls Try.prog 91 #[.int .i64 n, .int .i64 lo, .int .i64 hi] w fun e w' => e = .returned (.bool (inB n lo hi)) ∧ w = w' := by
  go_enter Try.func91, Try.ntmps91
  go_wp2
  all_goals go_ret
  all_goals exact ⟨retB (by simp only [inB]; simp; omega), rfl⟩

/-- what is left behind a size -/
def szV (left : Int) (n : Nat) : Int := if left - n < 0 then -1 else left - n
theorem szV_neg {left : Int} {n : Nat} (h : left - n < 0) : szV left n = -1 := if_pos h
theorem szV_pos {left : Int} {n : Nat} (h : ¬ left - n < 0) : szV left n = left - n := if_neg h

/-- the ready times are valid from an earliest time on: k is the place -/
def rdB (f : Nat → Int) (k : Nat) : Bool := inB (f k) (if k = 0 then 0 else f (k - 1)) 2000
def prev0 (f : Nat → Int) (k : Nat) : Int := if k = 0 then 0 else f (k - 1)
theorem prev0_succ (f : Nat → Int) (k : Nat) : prev0 f (k + 1) = f k := by simp [prev0]

/-- the ready times of one end are valid -/
def rdy (n : Nat) (f : Nat → Int) : Bool := allB n (rdB f) && decide (n ≤ 6)
theorem rdy_not {n k : Nat} {f : Nat → Int} (hk : k < n) (h : rdB f k = false) : rdy n f = false := by unfold rdy; rw [allB_not hk h]; rfl
theorem rdy_long {n : Nat} {f : Nat → Int} (h : ¬ n ≤ 6) : rdy n f = false := by simp [rdy, h]
theorem rdy_end {n : Nat} {f : Nat → Int} (h : ∀ k, k < n → rdB f k = true) : rdy n f = decide (n ≤ 6) := by unfold rdy; rw [allB_of h]; rfl

/-- eqIntS: two slices agree -/
def eqB (f g : Nat → Int) (k : Nat) : Bool := f k == g k
def eqSl (n n' : Nat) (f g : Nat → Int) : Bool := decide (n = n') && allB n (eqB f g)
theorem eqSl_true {n n' : Nat} {f g : Nat → Int} : eqSl n n' f g = true ↔ n = n' ∧ ∀ k, k < n → f k = g k := by
  simp [eqSl, allB_true, eqB]
theorem eqSl_ne {n n' : Nat} {f g : Nat → Int} (h : n ≠ n') : eqSl n n' f g = false := by simp [eqSl, h]
theorem eqSl_at {n k : Nat} {f g : Nat → Int} (hk : k < n) (h : f k ≠ g k) : eqSl n n f g = false := by
  unfold eqSl
  rw [allB_not hk (by simp [eqB, h])]
  simp
theorem eqIntS_any (b off n c b' off' n' c' : Nat) (f g : Nat → Int) (w : World) (hn : n ≤ 1000000000000000) (hn' : n' ≤ 1000000000000000) (hc : IC w b off n f) (hc' : IC w b' off' n' g) :
    Calls Try.prog 22 #[.slice (some ⟨b, off, none⟩) n c, .slice (some ⟨b', off', none⟩) n' c'] w fun e w' => e = .returned (.bool (eqSl n n' f g)) ∧ Dr w w' := by
  by_cases hnn : n = n'
  · subst hnn
    go_enter Try.func22, Try.ntmps22
    go_wp2
    go_loopw [5] (fun i wr => ∃ k : Nat, k ≤ n ∧ i = .int .i64 k ∧ (∀ j, j < k → f j = g j) ∧ Dr w wr) (fun i _ => n - (intOf i).toNat)
    case atStart => exact ⟨0, Nat.zero_le _, rfl, fun j hj => by omega, Dr.refl _⟩
    case round =>
      obtain ⟨k, hk, rfl, hall, q, rfl⟩ := hrel
      have HA := Lib.hid hall
      clear hall
      by_cases hlt : k < n
      · have hck := hc.at k hlt
        have hck' := hc'.at k hlt
        by_cases h1 : f k = g k
        · have HE := Lib.hid h1
          have h2 : (f k != g k) = false := by simp [h1]
          clear h1
          go_wp2
          go_quiet (fail)
          go_wp2
          go_roundw
          case rel => exact ⟨k + 1, by omega, by go_num, fun j hj => by
              by_cases e : j = k
              · rw [e]; exact HE.out
              · exact HA.out j (by omega), (by repeat (first | exact Dr.refl _ | exact ⟨_, rfl⟩ | refine Dr.drewN ?_ _))⟩
          case measure => simp [intOf]; omega
        · have HE := Lib.hid h1
          have h2 : (f k != g k) = true := by simp [h1]
          clear h1
          go_wp2
          go_quiet (fail)
          go_wp2
          go_ret
          exact ⟨retB (eqSl_at hlt HE.out).symm, (by repeat (first | exact Dr.refl _ | exact ⟨_, rfl⟩ | refine Dr.drewN ?_ _))⟩
      · have e : k = n := by omega
        subst e
        go_wp2
        go_ret
        exact ⟨retB (eqSl_true.2 ⟨rfl, HA.out⟩).symm, (by repeat (first | exact Dr.refl _ | exact ⟨_, rfl⟩ | refine Dr.drewN ?_ _))⟩
  · have h2 : ((n : Int) != (n' : Int)) = true := by simp; omega
    have HE := Lib.hid hnn
    clear hnn
    go_enter Try.func22, Try.ntmps22
    go_wp2
    go_ret
    exact ⟨retB (eqSl_ne HE.out).symm, (by repeat (first | exact Dr.refl _ | exact ⟨_, rfl⟩ | refine Dr.drewN ?_ _))⟩

/-- eqIntS where a length is 0: nothing is read -/
theorem eqIntS_zero (ao ao' : Option Addr) (n c n' c' : Nat) (f g : Nat → Int) (w : World) (hn : n ≤ 1000000000000000) (hn' : n' ≤ 1000000000000000) (hz : n = 0 ∨ n' = 0) :
    Calls Try.prog 22 #[.slice ao n c, .slice ao' n' c'] w fun e w' => e = .returned (.bool (eqSl n n' f g)) ∧ w = w' := by
  by_cases hnn : n = n'
  · obtain rfl : n = 0 := by omega
    obtain rfl : n' = 0 := by omega
    go_enter Try.func22, Try.ntmps22
    go_wp2
    go_loop [5] (fun i => i = .int .i64 0) (fun _ => 0)
    case atStart => rfl
    case round =>
      subst hrel
      go_wp2
      go_ret
      exact ⟨rfl, rfl⟩
  · have h2 : ((n : Int) != (n' : Int)) = true := by simp; omega
    have HE := Lib.hid hnn
    clear hnn hz
    go_enter Try.func22, Try.ntmps22
    go_wp2
    go_ret
    exact ⟨retB (eqSl_ne HE.out).symm, rfl⟩

/-- a slice value that reads as n numbers f; where n is 0 it may be nil -/
def SL (w : World) (v : Value) (n : Nat) (f : Nat → Int) : Prop :=
  (∃ b o c, v = .slice (some ⟨b, o, none⟩) n c ∧ IC w b o n f) ∨ (n = 0 ∧ ∃ ao c, v = .slice ao 0 c)
theorem SL.nil {w : World} {f : Nat → Int} : SL w (.slice none 0 0) 0 f := .inr ⟨rfl, _, _, rfl⟩
theorem SL.keep {w w' : World} {v : Value} {n : Nat} {f : Nat → Int} (h : SL w v n f) (hb : Below w.heap.size w w') : SL w' v n f := by
  rcases h with ⟨b, o, c, e, h⟩ | h
  · exact .inl ⟨b, o, c, e, h.keep hb⟩
  · exact .inr h

theorem SL.shape {w : World} {v : Value} {n : Nat} {f : Nat → Int} (h : SL w v n f) : ∃ ao c, v = .slice ao n c := by
  rcases h with ⟨b, o, c, e, _⟩ | ⟨rfl, ao, c, e⟩
  · exact ⟨_, _, e⟩
  · exact ⟨_, _, e⟩
theorem eqIntS_SL (v u : Value) (n n' : Nat) (f g : Nat → Int) (w : World) (hn : n ≤ 1000000000000000) (hn' : n' ≤ 1000000000000000) (hv : SL w v n f) (hu : SL w u n' g) :
    Calls Try.prog 22 #[v, u] w fun e w' => e = .returned (.bool (eqSl n n' f g)) ∧ Dr w w' := by
  rcases hv with ⟨b, o, c, rfl, h⟩ | ⟨rfl, ao, co, rfl⟩
  · rcases hu with ⟨b', o', c', rfl, h'⟩ | ⟨rfl, ao', co', rfl⟩
    · exact eqIntS_any b o n c b' o' n' c' f g w hn hn' h h'
    · exact (eqIntS_zero _ _ _ _ _ _ f g w hn hn' (.inr rfl)).mono fun e w' ⟨h1, h2⟩ => ⟨h1, h2 ▸ Dr.refl _⟩
  · rcases hu with ⟨b', o', c', rfl, h'⟩ | ⟨rfl, ao', co', rfl⟩
    · exact (eqIntS_zero _ _ _ _ _ _ f g w hn hn' (.inl rfl)).mono fun e w' ⟨h1, h2⟩ => ⟨h1, h2 ▸ Dr.refl _⟩
    · exact (eqIntS_zero _ _ _ _ _ _ f g w hn hn' (.inl rfl)).mono fun e w' ⟨h1, h2⟩ => ⟨h1, h2 ▸ Dr.refl _⟩

/-- sums -/
def sumTo (f : Nat → Int) : Nat → Int
  | 0 => 0
  | k + 1 => sumTo f k + f k
theorem sumTo_bd (f : Nat → Int) (m : Int) (h : ∀ k, -m ≤ f k ∧ f k ≤ m) (k : Nat) : -(m * k) ≤ sumTo f k ∧ sumTo f k ≤ m * k := by
  induction k with
  | zero => simp [sumTo]
  | succ k ih =>
    have := h k
    have e : m * ((k + 1 : Nat) : Int) = m * k + m := by rw [Int.natCast_add, Int.mul_add]; simp
    simp only [sumTo]; rw [e]; omega
theorem sumTo_bd' (f : Nat → Int) (m : Int) (n : Nat) (h : ∀ k, k < n → -m ≤ f k ∧ f k ≤ m) (k : Nat) (hk : k ≤ n) : -(m * k) ≤ sumTo f k ∧ sumTo f k ≤ m * k := by
  induction k with
  | zero => simp [sumTo]
  | succ k ih =>
    have := h k (by omega)
    have := ih (by omega)
    have e : m * ((k + 1 : Nat) : Int) = m * k + m := by rw [Int.natCast_add, Int.mul_add]; simp
    simp only [sumTo]; rw [e]; omega

end Go.Proofs.Ytokddeoliieofaa
