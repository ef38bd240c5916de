/-
  Walks: the number of orders of a single line.
-/
import Derived.Test.YtnhkijfibiffnaaC
namespace Go.Proofs.Ytnhkijfibiffnaa
open Go.RowKit

/-- binomials, by Pascal's rule -/
def ch : Nat → Nat → Nat
  | _, 0 => 1
  | 0, _ + 1 => 0
  | n + 1, k + 1 => ch n k + ch n (k + 1)
theorem ch_zero (n : Nat) : ch n 0 = 1 := by cases n <;> rfl
theorem ch_gt : ∀ (n k : Nat), n < k → ch n k = 0
  | 0, k + 1, _ => rfl
  | n + 1, 0, h => by omega
  | n + 1, k + 1, h => by rw [ch, ch_gt n k (by omega), ch_gt n (k + 1) (by omega)]
theorem ch_self : ∀ n, ch n n = 1
  | 0 => rfl
  | n + 1 => by rw [ch, ch_self n, ch_gt n (n + 1) (by omega)]
/-- how many orders a and b trains have -/
def pasc (a b : Nat) : Nat := ch (a + b) a
theorem pasc_left (b : Nat) : pasc 0 b = 1 := by unfold pasc; exact ch_zero _
theorem pasc_right (a : Nat) : pasc a 0 = 1 := by unfold pasc; exact ch_self _
theorem pasc_step (a b : Nat) : pasc (a + 1) (b + 1) = pasc a (b + 1) + pasc (a + 1) b := by
  unfold pasc
  have e1 : a + 1 + (b + 1) = (a + b + 1) + 1 := by omega
  have e2 : a + (b + 1) = a + b + 1 := by omega
  have e3 : a + 1 + b = a + b + 1 := by omega
  rw [e1, e2, e3, ch]
theorem ch_le : ∀ n k, ch n k ≤ 2 ^ n
  | n, 0 => by rw [ch_zero]; exact Nat.one_le_two_pow
  | 0, k + 1 => by simp [ch]
  | n + 1, k + 1 => by
    have := ch_le n k
    have := ch_le n (k + 1)
    rw [ch, Nat.pow_succ]
    omega
theorem pasc_le (a b : Nat) (h : a + b ≤ 12) : pasc a b ≤ 4096 := by
  have h1 := ch_le (a + b) a
  have h2 : 2 ^ (a + b) ≤ 2 ^ 12 := Nat.pow_le_pow_right (by omega) h
  unfold pasc
  omega
theorem pasc_pos (a b : Nat) : 1 ≤ pasc a b := by
  induction a generalizing b with
  | zero => rw [pasc_left]; exact Nat.le_refl _
  | succ a ih =>
    induction b with
    | zero => rw [pasc_right]; exact Nat.le_refl _
    | succ b ihb => rw [pasc_step]; omega
theorem pasc_way : ∀ b, b < 7 → ∀ i, i < 6 → (pasc i b * (b + (i + 1))) / (i + 1) = pasc (i + 1) b := by decide

theorem l8Many_any (k : Nat) : ∀ (a b : Nat) (w : World), a + b ≤ k → a + b ≤ 12 →
    Calls Try.prog 61 #[.int .i64 a, .int .i64 b] w fun e w' => e = .returned (.int .i64 (pasc a b)) ∧ w = w' := by
  induction k with
  | zero =>
    intro a b w hk _
    obtain rfl : a = 0 := by omega
    go_enter Try.func61, Try.ntmps61
    go_wp2_with fail
    go_ret
    exact ⟨retI (by rw [pasc_left]; rfl), rfl⟩
  | succ k ih =>
    intro a b w hk h12
    by_cases ha : a = 0
    · subst ha
      go_enter Try.func61, Try.ntmps61
      go_wp2_with fail
      go_ret
      exact ⟨retI (by rw [pasc_left]; rfl), rfl⟩
    by_cases hb : b = 0
    · subst hb
      have ha' : ((a : Int) == 0) = false := by simp; omega
      go_enter Try.func61, Try.ntmps61
      go_wp2_with fail
      go_ret
      exact ⟨retI (by rw [pasc_right]; rfl), rfl⟩
    obtain ⟨a, rfl⟩ : ∃ a', a = a' + 1 := ⟨a - 1, by omega⟩
    obtain ⟨b, rfl⟩ : ∃ b', b = b' + 1 := ⟨b - 1, by omega⟩
    have ha' : ((a : Int) + 1 == 0) = false := by simp; omega
    have hb' : ((b : Int) + 1 == 0) = false := by simp; omega
    have p1 := pasc_le a (b + 1) (by omega)
    have p2 := pasc_le (a + 1) b (by omega)
    go_enter Try.func61, Try.ntmps61
    go_wp2_with fail
    refine (ih a (b + 1) _ (by omega) (by omega)).mono ?_
    rintro e w' ⟨rfl, rfl⟩
    go_wp2_with fail
    refine (ih (a + 1) b _ (by omega) (by omega)).mono ?_
    rintro e w' ⟨rfl, rfl⟩
    go_wp2_with fail
    go_ret
    exact ⟨retI (by rw [pasc_step]; simp), rfl⟩

theorem ways_any (a b : Nat) (w : World) (ha : a ≤ 6) (hb : b ≤ 6) :
    Calls Try.prog 59 #[.int .i64 a, .int .i64 b] w fun e w' => e = .returned (.int .i64 (pasc a b)) ∧ w = w' := by
  go_enter Try.func59, Try.ntmps59
  go_wp2
  go_loop [5, 6] (fun m i => ∃ k : Nat, k ≤ a ∧ i = .int .i64 (k + 1) ∧ m = .int .i64 (pasc k b)) (fun _ i => a + 1 - (intOf i).toNat)
  case atStart => exact ⟨0, Nat.zero_le _, rfl, by rw [pasc_left]; rfl⟩
  case round =>
    obtain ⟨k, hk, rfl, rfl⟩ := hrel
    have hp := pasc_le k b (by omega)
    by_cases hlt : k < a
    · have hw := pasc_way b (by omega) k (by omega)
      have HW := Lib.hid hw
      clear hw
      have hm : pasc k b * (b + (k + 1)) ≤ 4096 * 13 := Nat.mul_le_mul hp (by omega)
      have HM : 0 ≤ (pasc k b : Int) * ((b : Int) + ((k : Int) + 1)) ∧ (pasc k b : Int) * ((b : Int) + ((k : Int) + 1)) ≤ 53248 := by
        have : ((pasc k b * (b + (k + 1)) : Nat) : Int) = (pasc k b : Int) * ((b : Int) + ((k : Int) + 1)) := by simp
        omega
      obtain ⟨hm1, hm2⟩ := HM
      go_wp2
      go_round
      case rel => exact ⟨k + 1, by omega, by go_num, by
        rw [← HW.out]
        simp⟩
      case measure => simp [intOf]; omega
    · have e : k = a := by omega
      subst e
      go_wp2
      go_ret
      exact ⟨rfl, rfl⟩

/-- what SingleMany answers -/
def manyV (x : Sg) : Int := if sgOk x = true then (pasc x.na x.nb : Int) else -1
theorem rdy_le {n : Nat} {f : Nat → Int} (h : rdy n f = true) : n ≤ 6 := by simp [rdy] at h; exact h.2
theorem sgOk_le {x : Sg} (h : sgOk x = true) : x.na ≤ 6 ∧ x.nb ≤ 6 := by
  simp only [sgOk, Bool.and_eq_true] at h
  exact ⟨rdy_le h.1, rdy_le h.2.1⟩
theorem manyV_yes {x : Sg} (h : sgOk x = true) : manyV x = (pasc x.na x.nb : Int) := if_pos h
theorem manyV_no {x : Sg} (h : sgOk x = false) : manyV x = -1 := if_neg (by rw [h]; simp)

theorem specMany_any (v : Value) (x : Sg) (w : World) (hv : SgV w v x) (ha : x.na ≤ 1000000000000000) (hb : x.nb ≤ 1000000000000000) :
    Calls Try.prog 17 #[v] w fun e w' => e = .returned (.int .i64 (manyV x)) ∧ Below w.heap.size w w' := by
  have hbb : ∀ a, Below w.heap.size w (w.alloc a) := fun a => (Below.refl _ _).alloc (Nat.le_refl _) _
  have hv0 := hv
  obtain ⟨ba, oa, ca, bb, ob, cb, rfl, hca, hcb⟩ := hv
  clear hca hcb
  have HV := Lib.hid hv0
  clear hv0
  go_enter Try.func17, Try.ntmps17
  go_wp2_with fail
  refine (specValid_any _ x _ (HV.out.keep (hbb _)) (by omega) (by omega)).mono ?_
  rintro e w1 ⟨rfl, hb1⟩
  have hcell := box_cells (hb1.mono (B' := w.heap.size + 1) (by simp)) (by omega)
  have hz1 : w.heap.size + 1 ≤ w1.heap.size := by have := hb1.size; simpa using this
  have HB1 : Hid (Below w.heap.size w w1) := (hbb _).trans (hb1.mono (by simp))
  clear hb1
  cases hs : sgOk x
  · have HS := Lib.hid hs
    clear hs
    go_wp2_with fail
    go_ret
    exact ⟨retI (manyV_no HS.out).symm, HB1.out⟩
  · have hle := sgOk_le hs
    have HS := Lib.hid hs
    clear hs
    obtain ⟨hl1, hl2⟩ := hle
    go_wp2_with fail
    refine (l8Many_any 12 _ _ _ (by omega) (by omega)).mono ?_
    rintro e w' ⟨rfl, rfl⟩
    go_wp2_with fail
    go_ret
    exact ⟨retI (manyV_yes HS.out).symm, HB1.out⟩

theorem implMany_any (v : Value) (x : Sg) (w : World) (hv : SgV w v x) (ha : x.na ≤ 1000000000000000) (hb : x.nb ≤ 1000000000000000) :
    Calls Try.prog 16 #[v] w fun e w' => e = .returned (.int .i64 (manyV x)) ∧ Below w.heap.size w w' := by
  have hbb : ∀ a, Below w.heap.size w (w.alloc a) := fun a => (Below.refl _ _).alloc (Nat.le_refl _) _
  have hv0 := hv
  obtain ⟨ba, oa, ca, bb, ob, cb, rfl, hca, hcb⟩ := hv
  clear hca hcb
  have HV := Lib.hid hv0
  clear hv0
  go_enter Try.func16, Try.ntmps16
  go_wp2_with fail
  refine (implValid_any _ x _ (HV.out.keep (hbb _)) (by omega) (by omega)).mono ?_
  rintro e w1 ⟨rfl, hb1⟩
  have hcell := box_cells (hb1.mono (B' := w.heap.size + 1) (by simp)) (by omega)
  have hz1 : w.heap.size + 1 ≤ w1.heap.size := by have := hb1.size; simpa using this
  have HB1 : Hid (Below w.heap.size w w1) := (hbb _).trans (hb1.mono (by simp))
  clear hb1
  cases hs : sgOk x
  · have HS := Lib.hid hs
    clear hs
    go_wp2_with fail
    go_ret
    exact ⟨retI (manyV_no HS.out).symm, HB1.out⟩
  · have hle := sgOk_le hs
    have HS := Lib.hid hs
    clear hs
    obtain ⟨hl1, hl2⟩ := hle
    go_wp2_with fail
    refine (ways_any _ _ _ (by omega) (by omega)).mono ?_
    rintro e w' ⟨rfl, rfl⟩
    go_wp2_with fail
    go_ret
    exact ⟨retI (manyV_yes HS.out).symm, HB1.out⟩

end Go.Proofs.Ytnhkijfibiffnaa
