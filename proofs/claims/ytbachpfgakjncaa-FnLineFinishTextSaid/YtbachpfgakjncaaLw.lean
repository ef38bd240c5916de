/-
  Plain laws on lines: a move keeps a line valid; some move leaves fewer moves while any are left.
-/
import Derived.Test.YtbachpfgakjncaaLv
namespace Go.Proofs.Ytbachpfgakjncaa
open Go.RowKit

theorem mvTo_N (x : Ln) (k : Nat) (l : ByteArray) : (mvTo x k l).N = upd x.N k (stB (mvJ x k l)).n ∧ (mvTo x k l).I = upd x.I k (stB (mvJ x k l)).i ∧ (mvTo x k l).O = upd x.O k (stB (mvJ x k l)).o := ⟨rfl, rfl, rfl⟩
theorem sk_mv {x : Ln} {k : Nat} {l : ByteArray} (hJ : mvJ x k l < 5) (q : Nat) : sk (mvTo x k l) q = if q = k then mvJ x k l else sk x q := by
  obtain ⟨h1, h2, h3⟩ := mvTo_N x k l
  unfold sk
  rw [h1, h2, h3]
  unfold upd
  by_cases e : q = k
  · simp only [e, if_true]
    exact stI_stB hJ
  · simp only [e, if_false]
theorem I_mv {x : Ln} {k : Nat} {l : ByteArray} (hJ : mvJ x k l < 5) (q : Nat) : (mvTo x k l).I q = if q = k then decide (mvJ x k l = 3) else x.I q := by
  rw [(mvTo_N x k l).2.1]
  unfold upd
  by_cases e : q = k
  · simp only [e, if_true]
    exact stB_i hJ
  · simp only [e, if_false]
theorem cnOk_true {x : Ln} {k : Nat} : cnOk x k = true ↔ cntA x.T (2 * (k : Int) + 1) x.m = if x.I k = true then 1 else 0 := by
  simp [cnOk]
theorem vld_mv {x : Ln} {s : Int} {l : ByteArray} (hv : vldL x = true) (ho : mvOk x s l = true) : vldL (mvTo x s l) = true := by
  obtain ⟨k, rfl, hk, hJ, hkind⟩ := mv_kind ho
  obtain ⟨hn1, hn5, hm5, hpos, htr, hcn⟩ := vldL_true hv
  have hIk := sk_I hv hk
  refine vldL_of (inB_true.2 ⟨by show (1 : Int) ≤ (x.n : Int); omega, by show (x.n : Int) ≤ 5; omega⟩) hm5 ?_ ?_ ?_
  · intro q hq
    show decide (sk (mvTo x k l) q < 5) = true
    rw [sk_mv hJ]
    split
    · exact decide_eq_true hJ
    · exact decide_eq_true (sk_lt hv hq)
  · intro i hi
    have hi' : i < x.m := hi
    have h0 := trOk_true.1 (htr i hi')
    rw [trOk_true]
    show (0 ≤ (mvTo x k l).T i ∧ (mvTo x k l).T i ≤ 2 * (x.n : Int)) ∧ (i = 0 ∨ (mvTo x k l).T i ≤ (mvTo x k l).T (i - 1))
    rcases hkind with ⟨hT, _⟩ | ⟨j, hj, hTj, hb, hT, _⟩ | ⟨j, hj, hTj, hb, hT, _⟩
    · rw [hT]; exact h0
    · rw [hT]
      unfold upd
      by_cases e : i = j
      · subst e
        rw [if_pos rfl]
        refine ⟨by omega, ?_⟩
        rcases Nat.eq_zero_or_pos i with z | z
        · exact .inl z
        · right
          rw [if_neg (by omega)]
          have h1 := hb (i - 1) (by omega)
          have h2 := h0.2
          omega
      · rw [if_neg e]
        refine ⟨h0.1, ?_⟩
        rcases h0.2 with z | z
        · exact .inl z
        · right
          split
          · rename_i e2
            rw [e2, hTj] at z
            omega
          · exact z
    · rw [hT]
      unfold upd
      by_cases e : i = j
      · subst e
        rw [if_pos rfl]
        refine ⟨by omega, ?_⟩
        rcases Nat.eq_zero_or_pos i with z | z
        · exact .inl z
        · right
          rw [if_neg (by omega)]
          have h1 := hb (i - 1) (by omega)
          have h2 := h0.2
          omega
      · rw [if_neg e]
        refine ⟨h0.1, ?_⟩
        rcases h0.2 with z | z
        · exact .inl z
        · right
          split
          · rename_i e2
            rw [e2, hTj] at z
            omega
          · exact z
  · intro q hq
    have hq' : q < x.n := hq
    have h0 := cnOk_true.1 (hcn q hq')
    rw [cnOk_true, I_mv hJ]
    show cntA (mvTo x k l).T (2 * (q : Int) + 1) x.m = _
    rcases hkind with ⟨hT, hs3, hJ3⟩ | ⟨j, hj, hTj, hb, hT, hs, hJe⟩ | ⟨j, hj, hTj, hb, hT, hs, hJe⟩
    · rw [hT, h0]
      by_cases e : q = k
      · subst e
        rw [hIk, if_pos rfl]
        simp [hs3, hJ3]
      · rw [if_neg e]
    · rw [hT]
      have hu := cntA_upd (f := x.T) (v := 2 * (k : Int) + 1) (q := 2 * (q : Int) + 1) x.m hj
      rw [hTj, if_neg (show ¬ 2 * (k : Int) = 2 * (q : Int) + 1 by omega), h0] at hu
      by_cases e : q = k
      · subst e
        rw [hIk] at hu
        rw [if_pos rfl]
        simp [hs, hJe] at hu ⊢
        omega
      · rw [if_neg e]
        rw [if_neg (show ¬ 2 * (k : Int) + 1 = 2 * (q : Int) + 1 by omega)] at hu
        omega
    · rw [hT]
      have hu := cntA_upd (f := x.T) (v := 2 * (k : Int) + 1 + 1) (q := 2 * (q : Int) + 1) x.m hj
      rw [hTj, h0] at hu
      by_cases e : q = k
      · subst e
        rw [hIk, if_neg (show ¬ 2 * (q : Int) + 1 + 1 = 2 * (q : Int) + 1 by omega)] at hu
        rw [if_pos rfl]
        simp [hs, hJe] at hu ⊢
        omega
      · rw [if_neg e]
        rw [if_neg (show ¬ 2 * (k : Int) + 1 = 2 * (q : Int) + 1 by omega), if_neg (show ¬ 2 * (k : Int) + 1 + 1 = 2 * (q : Int) + 1 by omega)] at hu
        omega
/-- the moves that a section in a state still needs, so many trains not yet through -/
def lefK (s t : Nat) : Int :=
  match s with
  | 0 => 5 * t
  | 1 => if 0 < t then 5 * t - 1 else 1
  | 2 => if 0 < t then 5 * t - 2 else 1
  | 3 => 5 * t + 2
  | _ => 5 * t + 1
theorem lefV_stB {j : Nat} (h : j < 5) (t : Nat) : lefV (stB j).n (stB j).i (stB j).o t = lefK j t := by
  match j, h with
  | 0, _ => simp [lefV, stB, lefK]
  | 1, _ => by_cases h : 0 < t
            · simp [lefV, stB, lefK, h]
            · obtain rfl : t = 0 := by omega
              simp [lefV, stB, lefK]
  | 2, _ => by_cases h : 0 < t
            · simp [lefV, stB, lefK, h]
            · obtain rfl : t = 0 := by omega
              simp [lefV, stB, lefK]
  | 3, _ => simp [lefV, stB, lefK]
  | 4, _ => simp [lefV, stB, lefK]
/-- the trains that have not yet come into a section -/
def tk (x : Ln) (k : Nat) : Nat := leA x.T (2 * k) x.m
theorem lef_sk {x : Ln} (hv : vldL x = true) {k : Nat} (hk : k < x.n) : lefV (x.N k) (x.I k) (x.O k) (leA x.T (2 * k) x.m) = lefK (sk x k) (tk x k) := by
  have h5 := sk_lt hv hk
  obtain ⟨h1, h2, h3⟩ := stI_B (n := x.N k) (i := x.I k) (o := x.O k) rfl h5
  rw [← lefV_stB h5]
  show lefV _ _ _ _ = lefV (stB (stI (x.N k) (x.I k) (x.O k))).n (stB (stI (x.N k) (x.I k) (x.O k))).i (stB (stI (x.N k) (x.I k) (x.O k))).o _
  rw [← h1, ← h2, ← h3]
  rfl
def lefT (x : Ln) : Nat → Int
  | 0 => 0
  | k + 1 => lefT x k + lefK (sk x k) (tk x k)
theorem lefS_T {x : Ln} (hv : vldL x = true) : ∀ k, k ≤ x.n → lefS x k = lefT x k
  | 0, _ => rfl
  | k + 1, h => by
    simp only [lefS, lefT]
    rw [lefS_T hv k (by omega), lef_sk hv (by omega)]
theorem lefK_pos (s t : Nat) : 0 ≤ lefK s t := by
  unfold lefK
  split <;> (try split) <;> omega
theorem tk_mv {x : Ln} {k i : Nat} {l : ByteArray} {p : Int} (hi : i < x.m) (hp : x.T i = p) (hT : (mvTo x k l).T = upd x.T i (p + 1)) (q : Nat) : tk (mvTo x k l) q + (if p = 2 * q then 1 else 0) = tk x q := by
  unfold tk
  rw [hT]
  show leA (upd x.T i (p + 1)) (2 * (q : Int)) x.m + _ = _
  have h := leA_upd (f := x.T) (v := p + 1) (q := 2 * (q : Int)) x.m hi
  rw [hp] at h
  by_cases e : p = 2 * (q : Int)
  · rw [if_pos e]
    rw [if_pos (by omega), if_neg (by omega)] at h
    omega
  · rw [if_neg e]
    by_cases e2 : p ≤ 2 * (q : Int)
    · rw [if_pos e2, if_pos (by omega)] at h
      omega
    · rw [if_neg e2, if_neg (by omega)] at h
      omega
end Go.Proofs.Ytbachpfgakjncaa
