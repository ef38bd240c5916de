/-
  The line with all ready times moved: plain.
-/
import Derived.Test.YtnhkijfibiffnaaLWa
import Derived.Test.YtnhkijfibiffnaaLa
namespace Go.Proofs.Ytnhkijfibiffnaa
open Go.RowKit

theorem mov_mov (x : Sg) (d : Int) : movSg (movSg x d) (0 - d) = x := by
  cases x
  simp only [movSg, Sg.mk.injEq, and_true, true_and]
  exact ⟨funext fun i => by omega, funext fun i => by omega⟩
theorem lat_parts {x : Sg} {d : Int} (h : latOk x d = true) : sgOk x = true ∧ (-2000 ≤ d ∧ d ≤ 2000) ∧ sgOk (movSg x d) = true := by
  simp only [latOk, Bool.and_eq_true] at h
  exact ⟨h.1, inB_true.1 h.2.1, h.2.2⟩
theorem lat_back {x : Sg} {d : Int} (h : latOk x d = true) : latOk (movSg x d) (0 - d) = true := by
  obtain ⟨h1, h2, h3⟩ := lat_parts h
  simp only [latOk, Bool.and_eq_true]
  exact ⟨h3, inB_true.2 ⟨by omega, by omega⟩, by rw [mov_mov]; exact h1⟩
theorem mov_rd (x : Sg) (d : Int) (c : Nat → Int) (k : Nat) : rdT (movSg x d) c k = rdT x c k + d := by
  unfold rdT
  split <;> rfl
theorem mov_st (x : Sg) (d : Int) (c : Nat → Int) : ∀ k, stT (movSg x d) c k = stT x c k + d
  | 0 => mov_rd x d c 0
  | k + 1 => by
    have ih := mov_st x d c k
    have hg : gapT (movSg x d) c k = gapT x c k := rfl
    simp only [stT]
    rw [ih, mov_rd, hg]
    omega
theorem sumTo_add (f : Nat → Int) (d : Int) : ∀ k : Nat, sumTo (fun i => f i + d) k = sumTo f k + k * d
  | 0 => by simp [sumTo]
  | k + 1 => by
    have ih := sumTo_add f d k
    simp only [sumTo]
    rw [ih, Int.natCast_add, Int.add_mul]
    simp
    omega
theorem mov_ok {x : Sg} {d : Int} (h : latOk x d = true) (s : ByteArray) : stOk (movSg x d) s = stOk x s := by
  obtain ⟨h1, _, h3⟩ := lat_parts h
  have e : ordOk (movSg x d) s = ordOk x s := rfl
  unfold stOk
  rw [h1, h3, e]
theorem mov_wait {x : Sg} {d : Int} (h : latOk x d = true) (s : ByteArray) : waitV (movSg x d) s = waitV x s := by
  cases ho : stOk x s
  · rw [waitV_no ho, waitV_no (by rw [mov_ok h]; exact ho)]
  · rw [waitV_yes ho, waitV_yes (by rw [mov_ok h]; exact ho)]
    have e1 : stT (movSg x d) (bt s) = fun i => stT x (bt s) i + d := funext (mov_st x d (bt s))
    have e2 : rdT (movSg x d) (bt s) = fun i => rdT x (bt s) i + d := funext (mov_rd x d (bt s))
    rw [e1, e2, sumTo_add, sumTo_add]
    omega
theorem mov_bestS {x : Sg} {d : Int} (h : latOk x d = true) : bestS (movSg x d) = bestS x := by
  obtain ⟨h1, _, h3⟩ := lat_parts h
  have e : fW (movSg x d) = fW x := funext fun k => mov_wait h _
  have e2 : bestK (movSg x d) = bestK x := by
    show minI (fW (movSg x d)) (pasc x.na x.nb) = _
    rw [e]
    rfl
  rw [bestS_yes h1, bestS_yes h3, e2]
  rfl
theorem mov_end {x : Sg} {d : Int} (h : latOk x d = true) {s : ByteArray} (hs : stOk x s = true) : endV (movSg x d) s = endV x s + (if s.size = 0 then 0 else d) := by
  by_cases h0 : s.size = 0
  · rw [endV_zero hs h0, endV_zero (by rw [mov_ok h]; exact hs) h0, if_pos h0]; rfl
  · rw [endV_pos hs h0, endV_pos (by rw [mov_ok h]; exact hs) h0, if_neg h0, mov_st]
    show _ + d + x.run = _
    omega
theorem fstMin_add {f g : Nat → Int} {d : Int} : ∀ k, (∀ j, j ≤ k → g j = f j + d) → fstMin g k = fstMin f k
  | 0, _ => rfl
  | k + 1, h => by
    have ih := fstMin_add k (fun j hj => h j (by omega))
    have h1 := h (k + 1) (by omega)
    have h2 := h (fstMin f k) (by have := fstMin_le f k; omega)
    simp only [fstMin]
    rw [ih, h1, h2]
    by_cases hc : f (k + 1) < f (fstMin f k)
    · rw [if_pos hc, if_pos (by omega)]
    · rw [if_neg hc, if_neg (by omega)]
theorem mov_soon {x : Sg} {d : Int} (h : latOk x d = true) : soonV (movSg x d) = soonV x + (if x.na + x.nb = 0 then 0 else d) := by
  obtain ⟨h1, _, h3⟩ := lat_parts h
  have hp := pasc_pos x.na x.nb
  have he : ∀ j, j ≤ pasc x.na x.nb - 1 → fE (movSg x d) j = fE x j + (if x.na + x.nb = 0 then 0 else d) := fun j hj => by
    have := mov_end h (ordS_ok h1 (show j < pasc x.na x.nb by omega))
    rw [ordS_size] at this
    exact this
  have e : minI (fE (movSg x d)) (pasc x.na x.nb) = minI (fE x) (pasc x.na x.nb) := fstMin_add _ he
  rw [soonV_yes h1, soonV_yes h3]
  show fE (movSg x d) (minI (fE (movSg x d)) (pasc x.na x.nb)) = _
  rw [e]
  exact he _ (by have := minI_lt (f := fE x) hp; omega)
end Go.Proofs.Ytnhkijfibiffnaa
