/-
  The line with its ends exchanged: plain.
-/
import Derived.Test.YtnhkijfibiffnaaLWa
import Derived.Test.YtnhkijfibiffnaaU
namespace Go.Proofs.Ytnhkijfibiffnaa
open Go.RowKit

def swC (c : UInt8) : UInt8 := if c = 85 then 68 else 85
def swp (s : ByteArray) : ByteArray := strOf (s.data.toList.map swC)
theorem swp_size (s : ByteArray) : (swp s).size = s.size := by
  unfold swp
  rw [strOf_size, List.length_map]
  rfl
theorem bt_swp {s : ByteArray} {k : Nat} (hk : k < s.size) : bt (swp s) k = if bt s k = 85 then 68 else 85 := by
  have h1 : bt s k = ltr s.data.toList k := by rw [← bt_strOf, strOf_data]
  have hl : k < s.data.toList.length := hk
  rw [h1]
  unfold swp
  rw [bt_strOf]
  unfold ltr
  rw [List.getElem?_map, List.getElem?_eq_getElem hl]
  simp only [Option.map_some, Option.getD_some]
  by_cases h : s.data.toList[k] = 85
  · rw [h]; rfl
  · have h2 : ¬ ((s.data.toList[k].toNat : Int) = 85) := fun e => h (u85.1 e)
    rw [if_neg h2]
    unfold swC
    rw [if_neg h]
    rfl
theorem swp_U {s : ByteArray} {k : Nat} (hk : k < s.size) : bt (swp s) k = 85 ↔ ¬ bt s k = 85 := by
  rw [bt_swp hk]
  split <;> simp_all
theorem swp_cnt {s : ByteArray} : ∀ k, k ≤ s.size → cntU (bt (swp s)) k = k - cntU (bt s) k
  | 0, _ => rfl
  | k + 1, hk => by
    have ih := swp_cnt (s := s) k (by omega)
    have hu := swp_U (s := s) (k := k) (by omega)
    have hc := cntU_le (bt s) k
    by_cases h : bt s k = 85
    · rw [cntU_D (fun e => hu.1 e h), cntU_U h, ih]; omega
    · rw [cntU_U (hu.2 h), cntU_D h, ih]; omega
theorem swp_rd {x : Sg} {s : ByteArray} {k : Nat} (hk : k < s.size) : rdT (turnSg x) (bt (swp s)) k = rdT x (bt s) k := by
  have hu := swp_U (s := s) hk
  have hc := cntU_le (bt s) k
  by_cases h : bt s k = 85
  · rw [rdT_D (fun e => hu.1 e h), rdT_U h, swp_cnt k (by omega), show k - (k - cntU (bt s) k) = cntU (bt s) k from by omega]; rfl
  · rw [rdT_U (hu.2 h), rdT_D h, swp_cnt k (by omega)]; rfl
theorem swp_gap {x : Sg} {s : ByteArray} (ho : ∀ k, k < s.size → bt s k = 85 ∨ bt s k = 68) {k : Nat} (hk : k + 1 < s.size) : gapT (turnSg x) (bt (swp s)) k = gapT x (bt s) k := by
  unfold gapT
  rw [bt_swp (show k < s.size by omega), bt_swp hk]
  rcases ho k (by omega) with h1 | h1 <;> rcases ho (k + 1) hk with h2 | h2 <;> rw [h1, h2] <;> rfl
theorem swp_st {x : Sg} {s : ByteArray} (ho : ∀ k, k < s.size → bt s k = 85 ∨ bt s k = 68) : ∀ k, k < s.size → stT (turnSg x) (bt (swp s)) k = stT x (bt s) k
  | 0, hk => swp_rd hk
  | k + 1, hk => by
    have ih := swp_st (x := x) ho k (by omega)
    simp only [stT]
    rw [swp_rd hk, swp_gap ho hk, ih]
theorem swp_ord {x : Sg} {s : ByteArray} (h : ordOk x s = true) : ordOk (turnSg x) (swp s) = true := by
  obtain ⟨h1, h2, h3⟩ := ordOk_true.1 h
  refine ordOk_true.2 ⟨fun k hk => ?_, ?_, ?_⟩
  · rw [swp_size] at hk
    rw [bt_swp hk]
    split
    · exact .inr rfl
    · exact .inl rfl
  · rw [swp_size, swp_cnt _ (Nat.le_refl _), h2, h3]; show x.na + x.nb - x.na = x.nb; omega
  · rw [swp_size, h3]; show x.na + x.nb = x.nb + x.na; omega
theorem turn_ok (x : Sg) : sgOk (turnSg x) = sgOk x := by
  unfold sgOk turnSg
  simp only
  cases rdy x.nb x.B <;> cases rdy x.na x.A <;> simp
theorem swp_ok {x : Sg} {s : ByteArray} (h : stOk x s = true) : stOk (turnSg x) (swp s) = true := by
  simp only [stOk, Bool.and_eq_true] at h
  exact stOk_yes (by rw [turn_ok]; exact h.1) (swp_ord h.2)
theorem swp_end {x : Sg} {s : ByteArray} (h : stOk x s = true) : endV (turnSg x) (swp s) = endV x s := by
  have ho := (ordOk_true.1 (stOk_parts h).2).1
  by_cases h0 : s.size = 0
  · rw [endV_zero h h0, endV_zero (swp_ok h) (by rw [swp_size]; exact h0)]
  · rw [endV_pos h h0, endV_pos (swp_ok h) (by rw [swp_size]; exact h0), swp_size, swp_st ho _ (by omega)]; rfl
theorem sumTo_congr {f g : Nat → Int} : ∀ k, (∀ j, j < k → f j = g j) → sumTo f k = sumTo g k
  | 0, _ => rfl
  | k + 1, h => by
    have ih := sumTo_congr k (fun j hj => h j (by omega))
    simp only [sumTo]
    rw [ih, h k (by omega)]
theorem swp_wait {x : Sg} {s : ByteArray} (h : stOk x s = true) : waitV (turnSg x) (swp s) = waitV x s := by
  have ho := (ordOk_true.1 (stOk_parts h).2).1
  rw [waitV_yes h, waitV_yes (swp_ok h), swp_size, sumTo_congr _ (fun j hj => swp_st (x := x) ho j hj), sumTo_congr _ (fun j hj => swp_rd (x := x) hj)]
theorem bestS_ok {x : Sg} (hs : sgOk x = true) : stOk x (bestS x) = true := by
  rw [bestS_yes hs]; exact ordS_ok hs (bestK_lt x)
theorem turn_wait_le {x : Sg} (hs : sgOk x = true) : waitV (turnSg x) (bestS (turnSg x)) ≤ waitV x (bestS x) := by
  have h := wait_least (swp_ok (bestS_ok hs))
  rw [swp_wait (bestS_ok hs)] at h
  exact h
theorem turn_wait {x : Sg} (hs : sgOk x = true) : waitV (turnSg x) (bestS (turnSg x)) = waitV x (bestS x) := by
  have h1 := turn_wait_le hs
  have h2 := turn_wait_le (x := turnSg x) (by rw [turn_ok]; exact hs)
  have h3 : turnSg (turnSg x) = x := rfl
  rw [h3] at h2
  omega
theorem turn_soon_le {x : Sg} (hs : sgOk x = true) : soonV (turnSg x) ≤ soonV x := by
  have hm := ordS_ok hs (minI_lt (f := fE x) (pasc_pos x.na x.nb))
  have h := end_least (swp_ok hm)
  rw [swp_end hm] at h
  rw [soonV_yes hs]
  exact h
theorem turn_soon {x : Sg} (hs : sgOk x = true) : soonV (turnSg x) = soonV x := by
  have h1 := turn_soon_le hs
  have h2 := turn_soon_le (x := turnSg x) (by rw [turn_ok]; exact hs)
  have h3 : turnSg (turnSg x) = x := rfl
  rw [h3] at h2
  omega
end Go.Proofs.Ytnhkijfibiffnaa
