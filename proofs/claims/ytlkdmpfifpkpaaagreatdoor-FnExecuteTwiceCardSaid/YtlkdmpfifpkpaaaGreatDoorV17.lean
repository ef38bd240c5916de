/-
  Parts of the proof: Lv Lw Lx. No condition.
-/
import Derived.Test.YtlkdmpfifpkpaaaGreatDoorV16
namespace Go.Proofs.YtlkdmpfifpkpaaaGreatDoor
open Go.RowKit
theorem stB_i {j : Nat} (h : j < 5) : (stB j).i = decide (j = 3) := by
 match j, h with
 | 0, _ => rfl
 | 1, _ => rfl
 | 2, _ => rfl
 | 3, _ => rfl
 | 4, _ => rfl
theorem nx_cases {s : Nat} {c : Int} (h : nx s c < 5) :
    (s = 0 ∧ c = 111 ∧ nx s c = 1) ∨ (s = 1 ∧ c = 114 ∧ nx s c = 0) ∨ (s = 1 ∧ c = 97 ∧ nx s c = 2) ∨ (s = 2 ∧ c = 99 ∧ nx s c = 0) ∨ (s = 2 ∧ c = 101 ∧ nx s c = 3) ∨ (s = 3 ∧ c = 108 ∧ nx s c = 4) ∨ (s = 4 ∧ c = 102 ∧ nx s c = 0) := by
  match s with
  | 0 => simp only [nx] at h ⊢; split at h <;> rename_i e <;> simp [e] at h ⊢
  | 1 => simp only [nx] at h ⊢
         by_cases e : c = 114
         ·simp [e]
         ·by_cases e2 : c = 97
          ·simp [e2]
          ·simp [e, e2] at h
  | 2 => simp only [nx] at h ⊢
         by_cases e : c = 99
         ·simp [e]
         ·by_cases e2 : c = 101
          ·simp [e2]
          ·simp [e, e2] at h
  | 3 => simp only [nx] at h ⊢; split at h <;> rename_i e <;> simp [e] at h ⊢
  | 4 => simp only [nx] at h ⊢; split at h <;> rename_i e <;> simp [e] at h ⊢
  | s + 5 => simp [nx] at h
theorem chr_of {l : ByteArray} (h : l.size = 1) : ∃ c, l = chr c := by
 obtain ⟨d⟩ := l
 have h1 : d.size = 1 := h
 obtain ⟨l⟩ := d
 have h2 : l.length = 1 := by simpa using h1
 match l, h2 with
 | [c], _ => exact ⟨c, rfl⟩
theorem bsI_sz {n : Int} {i o : Bool} {l : ByteArray} (h : bsI n i o l < 5) : l.size = 1 := by
 unfold bsI at h
 split at h
 ·assumption
 ·omega
def sk (x : Ln) (k : Nat) : Nat := stI (x.N k) (x.I k) (x.O k)
theorem sk_lt {x : Ln} (hv : vldL x = true) {k : Nat} (hk : k < x.n) : sk x k < 5 := by
 have h := (vldL_true hv).2.2.2.1 k hk
 exact of_decide_eq_true h
theorem sk_I {x : Ln} (hv : vldL x = true) {k : Nat} (hk : k < x.n) : x.I k = decide (sk x k = 3) := by
 have h5 := sk_lt hv hk
 have h := (stI_B (n := x.N k) (i := x.I k) (o := x.O k) rfl h5).2.1
 rw [h]
 exact stB_i h5
theorem mv_is {x : Ln} {s : Int} {l : ByteArray} (ho : mvOk x s l = true) : ∃ (k : Nat) (c : UInt8), s = k ∧ k < x.n ∧ l = chr c ∧ mvJ x s l = nx (sk x k) c.toNat ∧ mvJ x s l < 5 ∧ ((eB l || lB l) = true → fstA x.T (plI s l) x.m < x.m) := by
 simp only [mvOk, Bool.and_eq_true, inB_true, decide_eq_true_eq, Bool.or_eq_true, Bool.not_eq_true'] at ho
 obtain ⟨⟨h0, h1⟩, h2, h3⟩ := ho
 obtain ⟨k, rfl⟩ := Int.eq_ofNat_of_zero_le h0
 obtain ⟨c, rfl⟩ := chr_of (bsI_sz (n := x.N k) (i := x.I k) (o := x.O k) h2)
 refine ⟨k, c, rfl, by omega, rfl, mvJ_chr x k c, h2, fun h => ?_⟩
 rcases h3 with h3 | h3
 ·rw [h3] at h; cases h
 ·exact h3
theorem cntA_upd_out {f : Nat → Int} (i : Nat) {v q : Int} : ∀ m, m ≤ i → cntA (upd f i v) q m = cntA f q m
  | 0, _ => rfl
  | m + 1, h => by
   simp only [cntA]
   rw [cntA_upd_out i m (by omega), show upd f i v m = f m from if_neg (show ¬ m = i by omega)]
theorem cntA_upd {f : Nat → Int} {i : Nat} {v q : Int} : ∀ m, i < m → cntA (upd f i v) q m + (if f i = q then 1 else 0) = cntA f q m + (if v = q then 1 else 0)
  | 0, h => by omega
  | m + 1, h => by
   simp only [cntA]
   by_cases e : i = m
   ·subst e
    rw [cntA_upd_out i i (Nat.le_refl _), show upd f i v i = v from if_pos rfl]
    omega
   ·have ih := cntA_upd (f := f) (i := i) (v := v) (q := q) m (by omega)
    rw [show upd f i v m = f m from if_neg (fun h => e h.symm)]
    omega
theorem leA_upd_out {f : Nat → Int} (i : Nat) {v q : Int} : ∀ m, m ≤ i → leA (upd f i v) q m = leA f q m
  | 0, _ => rfl
  | m + 1, h => by
   simp only [leA]
   rw [leA_upd_out i m (by omega), show upd f i v m = f m from if_neg (show ¬ m = i by omega)]
theorem leA_upd {f : Nat → Int} {i : Nat} {v q : Int} : ∀ m, i < m → leA (upd f i v) q m + (if f i ≤ q then 1 else 0) = leA f q m + (if v ≤ q then 1 else 0)
  | 0, h => by omega
  | m + 1, h => by
   simp only [leA]
   by_cases e : i = m
   ·subst e
    rw [leA_upd_out i i (Nat.le_refl _), show upd f i v i = v from if_pos rfl]
    omega
   ·have ih := leA_upd (f := f) (i := i) (v := v) (q := q) m (by omega)
    rw [show upd f i v m = f m from if_neg (fun h => e h.symm)]
    omega
theorem fstA_before (f : Nat → Int) (p : Int) : ∀ m j, j < fstA f p m → f j ≠ p
  | 0, j, h => by simp [fstA] at h
  | m + 1, j, h => by
   have ih := fstA_before f p m j
   have hle := fstA_le f p m
   simp only [fstA] at h
   split at h
   ·exact ih h
   ·rename_i hn
    have e : fstA f p m = m := by omega
    split at h
    ·exact ih (by omega)
    ·rename_i h2
     by_cases ej : j = m
     ·rw [ej]; exact h2
     ·exact ih (by omega)
theorem trOk_true {x : Ln} {i : Nat} : trOk x i = true ↔ (0 ≤ x.T i ∧ x.T i ≤ 2 * (x.n : Int)) ∧ (i = 0 ∨ x.T i ≤ x.T (i - 1)) := by
 simp [trOk, inB_true]
theorem plI_e (s : Int) : plI s (chr 101) = 2 * s := if_pos (decide_eq_true rfl)
theorem plI_l (s : Int) : plI s (chr 108) = 2 * s + 1 := by
 unfold plI
 rw [if_neg (by simp [eB, chr_eq]), if_pos (show lB (chr 108) = true from decide_eq_true rfl)]
theorem el_no {c : UInt8} (h1 : c ≠ 101) (h2 : c ≠ 108) : (eB (chr c) || lB (chr c)) = false := by
 rw [show eB (chr c) = false from decide_eq_false (fun h => h1 ((chr_eq c 101).1 h)), show lB (chr c) = false from decide_eq_false (fun h => h2 ((chr_eq c 108).1 h))]
 rfl
theorem el_e : (eB (chr 101) || lB (chr 101)) = true := by
 rw [show eB (chr 101) = true from decide_eq_true rfl]; rfl
theorem el_l : (eB (chr 108) || lB (chr 108)) = true := by
 rw [show lB (chr 108) = true from decide_eq_true rfl, Bool.or_true]
theorem mv_kind {x : Ln} {s : Int} {l : ByteArray} (ho : mvOk x s l = true) : ∃ k : Nat, s = k ∧ k < x.n ∧ mvJ x s l < 5 ∧
    ((mvTo x s l).T = x.T ∧ sk x k ≠ 3 ∧ mvJ x s l ≠ 3 ∨
     (∃ i, i < x.m ∧ x.T i = 2 * k ∧ (∀ j, j < i → x.T j ≠ 2 * k) ∧ (mvTo x s l).T = upd x.T i (2 * k + 1) ∧ sk x k = 2 ∧ mvJ x s l = 3) ∨
     (∃ i, i < x.m ∧ x.T i = 2 * k + 1 ∧ (∀ j, j < i → x.T j ≠ 2 * k + 1) ∧ (mvTo x s l).T = upd x.T i (2 * k + 1 + 1) ∧ sk x k = 3 ∧ mvJ x s l = 4)) := by
  obtain ⟨k, c, rfl, hk, rfl, hJ, hJ5, hf⟩ := mv_is ho
  refine ⟨k, rfl, hk, hJ5, ?_⟩
  rw [hJ] at hJ5
  have hc : ∀ d : UInt8, ((c.toNat : Nat) : Int) = (d.toNat : Int) → c = d := fun d h => UInt8.toNat_inj.1 (by omega)
  by_cases h1 : c = 101
  ·subst h1
   right; left
   have hi := hf el_e
   rw [plI_e] at hi
   refine ⟨_, hi, fstA_at _ _ _ hi, fstA_before _ _ _, ?_, ?_⟩
   ·unfold mvTo
    simp only [el_e, if_true, plI_e]
   ·rcases nx_cases hJ5 with h | h | h | h | h | h | h <;> (obtain ⟨a, b, d⟩ := h; try (exfalso; revert b; decide))
    exact ⟨a, by rw [hJ, d]⟩
  by_cases h2 : c = 108
  ·subst h2
   right; right
   have hi := hf el_l
   rw [plI_l] at hi
   refine ⟨_, hi, fstA_at _ _ _ hi, fstA_before _ _ _, ?_, ?_⟩
   ·unfold mvTo
    simp only [el_l, if_true, plI_l]
   ·rcases nx_cases hJ5 with h | h | h | h | h | h | h <;> (obtain ⟨a, b, d⟩ := h; try (exfalso; revert b; decide))
    exact ⟨a, by rw [hJ, d]⟩
  ·left
   refine ⟨?_, ?_⟩
   ·unfold mvTo
    simp only [el_no h1 h2, Bool.false_eq_true, if_false]
   ·rw [hJ]
    rcases nx_cases hJ5 with h | h | h | h | h | h | h <;> obtain ⟨a, b, d⟩ := h
    ·rw [a] at d ⊢; omega
    ·rw [a] at d ⊢; omega
    ·rw [a] at d ⊢; omega
    ·rw [a] at d ⊢; omega
    ·exact absurd (hc 101 b) h1
    ·exact absurd (hc 108 b) h2
    ·rw [a] at d ⊢; omega
theorem mvTo_N (x : Ln) (k : Nat) (l : ByteArray) : (mvTo x k l).N = upd x.N k (stB (mvJ x k l)).n ∧ (mvTo x k l).I = upd x.I k (stB (mvJ x k l)).i ∧ (mvTo x k l).O = upd x.O k (stB (mvJ x k l)).o := ⟨rfl, rfl, rfl⟩
theorem sk_mv {x : Ln} {k : Nat} {l : ByteArray} (hJ : mvJ x k l < 5) (q : Nat) : sk (mvTo x k l) q = if q = k then mvJ x k l else sk x q := by
 obtain ⟨h1, h2, h3⟩ := mvTo_N x k l
 unfold sk
 rw [h1, h2, h3]
 unfold upd
 by_cases e : q = k
 ·simp only [e, if_true]
  exact stI_stB hJ
 ·simp only [e, if_false]
theorem I_mv {x : Ln} {k : Nat} {l : ByteArray} (hJ : mvJ x k l < 5) (q : Nat) : (mvTo x k l).I q = if q = k then decide (mvJ x k l = 3) else x.I q := by
 rw [(mvTo_N x k l).2.1]
 unfold upd
 by_cases e : q = k
 ·simp only [e, if_true]
  exact stB_i hJ
 ·simp only [e, if_false]
theorem cnOk_true {x : Ln} {k : Nat} : cnOk x k = true ↔ cntA x.T (2 * (k : Int) + 1) x.m = if x.I k = true then 1 else 0 := by
 simp [cnOk]
theorem vld_mv {x : Ln} {s : Int} {l : ByteArray} (hv : vldL x = true) (ho : mvOk x s l = true) : vldL (mvTo x s l) = true := by
 obtain ⟨k, rfl, hk, hJ, hkind⟩ := mv_kind ho
 obtain ⟨hn1, hn5, hm5, hpos, htr, hcn⟩ := vldL_true hv
 have hIk := sk_I hv hk
 refine vldL_of (inB_true.2 ⟨by show (1 : Int) ≤ (x.n : Int); omega, by show (x.n : Int) ≤ 5; omega⟩) hm5 ?_ ?_ ?_
 ·intro q hq
  show decide (sk (mvTo x k l) q < 5) = true
  rw [sk_mv hJ]
  split
  ·exact decide_eq_true hJ
  ·exact decide_eq_true (sk_lt hv hq)
 ·intro i hi
  have hi' : i < x.m := hi
  have h0 := trOk_true.1 (htr i hi')
  rw [trOk_true]
  show (0 ≤ (mvTo x k l).T i ∧ (mvTo x k l).T i ≤ 2 * (x.n : Int)) ∧ (i = 0 ∨ (mvTo x k l).T i ≤ (mvTo x k l).T (i - 1))
  rcases hkind with ⟨hT, _⟩ | ⟨j, hj, hTj, hb, hT, _⟩ | ⟨j, hj, hTj, hb, hT, _⟩
  ·rw [hT]; exact h0
  ·rw [hT]
   unfold upd
   by_cases e : i = j
   ·subst e
    rw [if_pos rfl]
    refine ⟨by omega, ?_⟩
    rcases Nat.eq_zero_or_pos i with z | z
    ·exact .inl z
    ·right
     rw [if_neg (by omega)]
     have h1 := hb (i - 1) (by omega)
     have h2 := h0.2
     omega
   ·rw [if_neg e]
    refine ⟨h0.1, ?_⟩
    rcases h0.2 with z | z
    ·exact .inl z
    ·right
     split
     ·rename_i e2
      rw [e2, hTj] at z
      omega
     ·exact z
  ·rw [hT]
   unfold upd
   by_cases e : i = j
   ·subst e
    rw [if_pos rfl]
    refine ⟨by omega, ?_⟩
    rcases Nat.eq_zero_or_pos i with z | z
    ·exact .inl z
    ·right
     rw [if_neg (by omega)]
     have h1 := hb (i - 1) (by omega)
     have h2 := h0.2
     omega
   ·rw [if_neg e]
    refine ⟨h0.1, ?_⟩
    rcases h0.2 with z | z
    ·exact .inl z
    ·right
     split
     ·rename_i e2
      rw [e2, hTj] at z
      omega
     ·exact z
 ·intro q hq
  have hq' : q < x.n := hq
  have h0 := cnOk_true.1 (hcn q hq')
  rw [cnOk_true, I_mv hJ]
  show cntA (mvTo x k l).T (2 * (q : Int) + 1) x.m = _
  rcases hkind with ⟨hT, hs3, hJ3⟩ | ⟨j, hj, hTj, hb, hT, hs, hJe⟩ | ⟨j, hj, hTj, hb, hT, hs, hJe⟩
  ·rw [hT, h0]
   by_cases e : q = k
   ·subst e
    rw [hIk, if_pos rfl]
    simp [hs3, hJ3]
   ·rw [if_neg e]
  ·rw [hT]
   have hu := cntA_upd (f := x.T) (v := 2 * (k : Int) + 1) (q := 2 * (q : Int) + 1) x.m hj
   rw [hTj, if_neg (show ¬ 2 * (k : Int) = 2 * (q : Int) + 1 by omega), h0] at hu
   by_cases e : q = k
   ·subst e
    rw [hIk] at hu
    rw [if_pos rfl]
    simp [hs, hJe] at hu ⊢
    omega
   ·rw [if_neg e]
    rw [if_neg (show ¬ 2 * (k : Int) + 1 = 2 * (q : Int) + 1 by omega)] at hu
    omega
  ·rw [hT]
   have hu := cntA_upd (f := x.T) (v := 2 * (k : Int) + 1 + 1) (q := 2 * (q : Int) + 1) x.m hj
   rw [hTj, h0] at hu
   by_cases e : q = k
   ·subst e
    rw [hIk, if_neg (show ¬ 2 * (q : Int) + 1 + 1 = 2 * (q : Int) + 1 by omega)] at hu
    rw [if_pos rfl]
    simp [hs, hJe] at hu ⊢
    omega
   ·rw [if_neg e]
    rw [if_neg (show ¬ 2 * (k : Int) + 1 = 2 * (q : Int) + 1 by omega), if_neg (show ¬ 2 * (k : Int) + 1 + 1 = 2 * (q : Int) + 1 by omega)] at hu
    omega
def lefK (s t : Nat) : Int :=
 match s with
 | 0 => 5 * t
 | 1 => if 0 < t then 5 * t - 1 else 1
 | 2 => if 0 < t then 5 * t - 2 else 1
 | 3 => 5 * t + 2
 | _ => 5 * t + 1
theorem lefV_stB {j : Nat} (h : j < 5) (t : Nat) : lefV (stB j).n (stB j).i (stB j).o t = lefK j t := by
 match j, h with
 | 0, _ => simp [lefV, stB, lefK]
 | 1, _ => by_cases h : 0 < t
           ·simp [lefV, stB, lefK, h]
           ·obtain rfl : t = 0 := by omega
            simp [lefV, stB, lefK]
 | 2, _ => by_cases h : 0 < t
           ·simp [lefV, stB, lefK, h]
           ·obtain rfl : t = 0 := by omega
            simp [lefV, stB, lefK]
 | 3, _ => simp [lefV, stB, lefK]
 | 4, _ => simp [lefV, stB, lefK]
def tk (x : Ln) (k : Nat) : Nat := leA x.T (2 * k) x.m
theorem lef_sk {x : Ln} (hv : vldL x = true) {k : Nat} (hk : k < x.n) : lefV (x.N k) (x.I k) (x.O k) (leA x.T (2 * k) x.m) = lefK (sk x k) (tk x k) := by
 have h5 := sk_lt hv hk
 obtain ⟨h1, h2, h3⟩ := stI_B (n := x.N k) (i := x.I k) (o := x.O k) rfl h5
 rw [← lefV_stB h5]
 show lefV _ _ _ _ = lefV (stB (stI (x.N k) (x.I k) (x.O k))).n (stB (stI (x.N k) (x.I k) (x.O k))).i (stB (stI (x.N k) (x.I k) (x.O k))).o _
 rw [← h1, ← h2, ← h3]
 rfl
def lefT (x : Ln) : Nat → Int
  | 0 => 0
  | k + 1 => lefT x k + lefK (sk x k) (tk x k)
theorem lefS_T {x : Ln} (hv : vldL x = true) : ∀ k, k ≤ x.n → lefS x k = lefT x k
  | 0, _ => rfl
  | k + 1, h => by
   simp only [lefS, lefT]
   rw [lefS_T hv k (by omega), lef_sk hv (by omega)]
theorem lefK_pos (s t : Nat) : 0 ≤ lefK s t := by
 unfold lefK
 split <;> (try split) <;> omega
theorem tk_mv {x : Ln} {k i : Nat} {l : ByteArray} {p : Int} (hi : i < x.m) (hp : x.T i = p) (hT : (mvTo x k l).T = upd x.T i (p + 1)) (q : Nat) : tk (mvTo x k l) q + (if p = 2 * q then 1 else 0) = tk x q := by
 unfold tk
 rw [hT]
 show leA (upd x.T i (p + 1)) (2 * (q : Int)) x.m + _ = _
 have h := leA_upd (f := x.T) (v := p + 1) (q := 2 * (q : Int)) x.m hi
 rw [hp] at h
 by_cases e : p = 2 * (q : Int)
 ·rw [if_pos e]
  rw [if_pos (by omega), if_neg (by omega)] at h
  omega
 ·rw [if_neg e]
  by_cases e2 : p ≤ 2 * (q : Int)
  ·rw [if_pos e2, if_pos (by omega)] at h
   omega
  ·rw [if_neg e2, if_neg (by omega)] at h
   omega
theorem lefT_one {x y : Ln} {k : Nat} : ∀ n, k < n → (∀ q, q < n → q ≠ k → lefK (sk y q) (tk y q) = lefK (sk x q) (tk x q)) → lefT y n + lefK (sk x k) (tk x k) = lefT x n + lefK (sk y k) (tk y k)
  | 0, h, _ => by omega
  | n + 1, h, hq => by
   simp only [lefT]
   by_cases e : k = n
   ·subst e
    have hs : ∀ m, m ≤ k → lefT y m = lefT x m := by
     intro m
     induction m with
     | zero => intro _; rfl
     | succ m ih =>
      intro hm
      simp only [lefT]
      rw [ih (by omega), hq m (by omega) (by omega)]
    rw [hs k (Nat.le_refl _)]
    omega
   ·have ih := lefT_one (x := x) (y := y) (k := k) n (by omega) (fun q h1 h2 => hq q (by omega) h2)
    have h1 := hq n (by omega) (fun h => e h.symm)
    omega
theorem lefT_mv {x : Ln} {k : Nat} {l : ByteArray} (ho : mvOk x k l = true) (hk : k < x.n) : lefT (mvTo x k l) x.n + lefK (sk x k) (tk x k) = lefT x x.n + lefK (mvJ x k l) (tk (mvTo x k l) k) ∧ (tk (mvTo x k l) k = tk x k ∧ ¬ (sk x k = 2 ∧ mvJ x k l = 3) ∨ tk (mvTo x k l) k + 1 = tk x k ∧ sk x k = 2 ∧ mvJ x k l = 3) := by
 obtain ⟨k', e, _, hJ, hkind⟩ := mv_kind ho
 obtain rfl : k = k' := by omega
 have hsk : sk (mvTo x k l) k = mvJ x k l := by rw [sk_mv hJ, if_pos rfl]
 have hT : ∀ q, q ≠ k → tk (mvTo x k l) q = tk x q := by
  intro q hq
  rcases hkind with ⟨hT, _⟩ | ⟨i, hi, hp, _, hT, _⟩ | ⟨i, hi, hp, _, hT, _⟩
  ·unfold tk; rw [hT]; rfl
  ·have h := tk_mv hi hp hT q
   rw [if_neg (by omega)] at h
   omega
  ·have h := tk_mv hi hp hT q
   rw [if_neg (by omega)] at h
   omega
 constructor
 ·rw [← hsk]
  refine lefT_one x.n hk (fun q h1 h2 => ?_)
  rw [sk_mv hJ, if_neg h2, hT q h2]
 ·rcases hkind with ⟨hT, h3, h4⟩ | ⟨i, hi, hp, _, hT, h3, h4⟩ | ⟨i, hi, hp, _, hT, h3, h4⟩
  ·left
   exact ⟨by unfold tk; rw [hT]; rfl, fun h => h4 h.2⟩
  ·right
   have h := tk_mv hi hp hT k
   rw [if_pos rfl] at h
   exact ⟨h, h3, h4⟩
  ·left
   have h := tk_mv hi hp hT k
   rw [if_neg (by omega)] at h
   exact ⟨by omega, fun h => by omega⟩
theorem mem_mvs {x : Ln} {k : Nat} {c : UInt8} (hk : k < x.n) (hc : c ∈ eL) (hn : nx (sk x k) c.toNat < 5) (hs : mvSk x k c = false) : ((k : Int), chr c) ∈ mvsL x := by
 unfold mvsL mvU
 rw [List.mem_flatMap]
 refine ⟨k, List.mem_range.2 hk, ?_⟩
 unfold mvK mvI
 rw [List.mem_map]
 refine ⟨c, ?_, rfl⟩
 rw [List.mem_filter]
 refine ⟨?_, by rw [hs]; rfl⟩
 rw [List.take_length]
 unfold mvLt nxT
 rw [List.mem_filter]
 exact ⟨by simpa [eL] using hc, decide_eq_true hn⟩
theorem leA_ex {f : Nat → Int} {q : Int} : ∀ m, 0 < leA f q m → ∃ i, i < m ∧ f i ≤ q
  | 0, h => by simp [leA] at h
  | m + 1, h => by
   simp only [leA] at h
   by_cases e : f m ≤ q
   ·exact ⟨m, by omega, e⟩
   ·rw [if_neg e] at h
    obtain ⟨i, h1, h2⟩ := leA_ex m h
    exact ⟨i, by omega, h2⟩
theorem leA_pos {f : Nat → Int} {q : Int} {i : Nat} (hf : f i ≤ q) : ∀ m, i < m → 0 < leA f q m
  | 0, h => by omega
  | m + 1, h => by
   simp only [leA]
   by_cases e : i = m
   ·subst e; rw [if_pos hf]; omega
   ·have := leA_pos hf m (by omega); omega
theorem cntA_pos {f : Nat → Int} {p : Int} {i : Nat} (hf : f i = p) : ∀ m, i < m → 0 < cntA f p m
  | 0, h => by omega
  | m + 1, h => by
   simp only [cntA]
   by_cases e : i = m
   ·subst e; rw [if_pos hf]; omega
   ·have := cntA_pos hf m (by omega); omega
theorem lefK_t {s t : Nat} (ht : 0 < t) : 0 < lefK s t := by
 unfold lefK
 split
 ·omega
 ·rw [if_pos ht]; omega
 ·rw [if_pos ht]; omega
 ·omega
 ·omega
theorem lefT_ex {x : Ln} : ∀ n, 0 < lefT x n → ∃ k, k < n ∧ 0 < lefK (sk x k) (tk x k)
  | 0, h => by simp [lefT] at h
  | n + 1, h => by
   simp only [lefT] at h
   by_cases e : 0 < lefK (sk x n) (tk x n)
   ·exact ⟨n, by omega, e⟩
   ·have h1 := lefK_pos (sk x n) (tk x n)
    obtain ⟨k, h2, h3⟩ := lefT_ex (x := x) n (by omega)
    exact ⟨k, by omega, h3⟩
theorem sec_ex {x : Ln} (hv : vldL x = true) : ∀ k, k < x.n → 0 < lefK (sk x k) (tk x k) → ∃ q, q < x.n ∧ 0 < lefK (sk x q) (tk x q) ∧ (sk x q ≠ 2 ∨ tk x q = 0 ∨ 0 < cntA x.T (2 * (q : Int)) x.m) := by
 intro k
 induction k using Nat.strongRecOn with
 | ind k ih =>
  intro hk hl
  by_cases h1 : sk x k ≠ 2
  ·exact ⟨k, hk, hl, .inl h1⟩
  by_cases h2 : tk x k = 0
  ·exact ⟨k, hk, hl, .inr (.inl h2)⟩
  by_cases h3 : 0 < cntA x.T (2 * (k : Int)) x.m
  ·exact ⟨k, hk, hl, .inr (.inr h3)⟩
  obtain ⟨i, hi, hle⟩ := leA_ex (f := x.T) (q := 2 * (k : Int)) x.m (by unfold tk at h2; omega)
  have hne : x.T i ≠ 2 * (k : Int) := fun e => h3 (cntA_pos e x.m hi)
  have htr := (trOk_true.1 ((vldL_true hv).2.2.2.2.1 i hi)).1.1
  obtain ⟨p, hp⟩ := Int.eq_ofNat_of_zero_le htr
  have hjk : p / 2 < k := by omega
  refine ih (p / 2) hjk (by omega) ?_
  by_cases ho : p % 2 = 0
  ·refine lefK_t ?_
   exact leA_pos (f := x.T) (q := 2 * ((p / 2 : Nat) : Int)) (i := i) (by omega) x.m hi
  ·have hc := cntA_pos (f := x.T) (p := 2 * ((p / 2 : Nat) : Int) + 1) (i := i) (by omega) x.m hi
   have hcn := cnOk_true.1 ((vldL_true hv).2.2.2.2.2 (p / 2) (by omega))
   rw [sk_I hv (by omega)] at hcn
   by_cases h4 : sk x (p / 2) = 3
   ·rw [h4]
    show 0 < 5 * (tk x (p / 2) : Int) + 2
    omega
   ·rw [decide_eq_false h4, if_neg (by simp)] at hcn
    omega
theorem near_at {x : Ln} (hv : vldL x = true) {k : Nat} (hk : k < x.n) (c : UInt8) (hc : c ∈ eL) {J : Nat} (hn : nx (sk x k) c.toNat = J) (hJ : J < 5) (hs : mvSk x k c = false)
    (hl : ∀ t', (t' = tk x k ∧ ¬ (sk x k = 2 ∧ J = 3) ∨ t' + 1 = tk x k ∧ sk x k = 2 ∧ J = 3) → lefK J t' < lefK (sk x k) (tk x k)) :
    ∃ y, y ∈ mvsL x ∧ mvOk x y.1 y.2 = true ∧ lefS (mvTo x y.1 y.2) x.n < lefS x x.n := by
  have ho : mvOk x k (chr c) = true := by
   rw [mvOk_chr hv hk, hs]
   show (true && decide (nx (sk x k) (c.toNat : Int) < 5)) = true
   rw [decide_eq_true (by omega)]
   rfl
  have hJe : mvJ x k (chr c) = J := by rw [mvJ_chr]; exact hn
  refine ⟨((k : Int), chr c), mem_mvs hk hc (by omega) hs, ho, ?_⟩
  have h := lefT_mv ho hk
  rw [hJe] at h
  have h2 := hl _ h.2
  have e1 := lefS_T hv x.n (Nat.le_refl _)
  have e2 : lefS (mvTo x k (chr c)) x.n = lefT (mvTo x k (chr c)) x.n := lefS_T (vld_mv hv ho) x.n (Nat.le_refl _)
  show lefS (mvTo x k (chr c)) x.n < _
  rw [e1, e2]
  omega
theorem near_ex {x : Ln} (hv : vldL x = true) (h0 : 0 < lefS x x.n) : ∃ y, y ∈ mvsL x ∧ mvOk x y.1 y.2 = true ∧ lefS (mvTo x y.1 y.2) x.n < lefS x x.n := by
 rw [lefS_T hv x.n (Nat.le_refl _)] at h0
 obtain ⟨k0, hk0, hl0⟩ := lefT_ex x.n h0
 obtain ⟨k, hk, hl, hgo⟩ := sec_ex hv k0 hk0 hl0
 have h5 := sk_lt hv hk
 have hsc : ∀ c : UInt8, c ≠ 101 → mvSk x k c = false := fun c h => by unfold mvSk; rw [decide_eq_false h]; rfl
 have hs5 : sk x k = 0 ∨ sk x k = 1 ∨ sk x k = 2 ∨ sk x k = 3 ∨ sk x k = 4 := by omega
 rcases hs5 with e | e | e | e | e
 ·rw [e] at hl
  have ht : 0 < tk x k := by
   have : (0 : Int) < 5 * (tk x k : Int) := hl
   omega
  refine near_at hv hk 111 (by decide) (J := 1) (by rw [e]; rfl) (by omega) (hsc _ (by decide)) (fun t' h => ?_)
  rw [e]
  rcases h with ⟨rfl, _⟩ | ⟨_, h, _⟩
  ·simp only [lefK, if_pos ht]; omega
  ·omega
 ·by_cases ht : 0 < tk x k
  ·refine near_at hv hk 97 (by decide) (J := 2) (by rw [e]; rfl) (by omega) (hsc _ (by decide)) (fun t' h => ?_)
   rw [e]
   rcases h with ⟨rfl, _⟩ | ⟨_, h, _⟩
   ·simp only [lefK, if_pos ht]; omega
   ·omega
  ·refine near_at hv hk 114 (by decide) (J := 0) (by rw [e]; rfl) (by omega) (hsc _ (by decide)) (fun t' h => ?_)
   rw [e]
   rcases h with ⟨rfl, _⟩ | ⟨_, h, _⟩
   ·simp only [lefK, if_neg ht]; omega
   ·omega
 ·by_cases ht : 0 < tk x k
  ·have hc : 0 < cntA x.T (2 * (k : Int)) x.m := by
    rcases hgo with h | h | h
    ·exact absurd e h
    ·omega
    ·exact h
   refine near_at hv hk 101 (by decide) (J := 3) (by rw [e]; rfl) (by omega) (by unfold mvSk; rw [decide_eq_false (show ¬ cntA x.T (2 * (k : Int)) x.m = 0 by omega), Bool.and_false]) (fun t' h => ?_)
   rw [e]
   rcases h with ⟨_, h⟩ | ⟨h, _, _⟩
   ·exact absurd ⟨e, rfl⟩ h
   ·simp only [lefK, if_pos ht]; omega
  ·refine near_at hv hk 99 (by decide) (J := 0) (by rw [e]; rfl) (by omega) (hsc _ (by decide)) (fun t' h => ?_)
   rw [e]
   rcases h with ⟨rfl, _⟩ | ⟨_, _, h⟩
   ·simp only [lefK, if_neg ht]; omega
   ·omega
 ·refine near_at hv hk 108 (by decide) (J := 4) (by rw [e]; rfl) (by omega) (hsc _ (by decide)) (fun t' h => ?_)
  rw [e]
  rcases h with ⟨rfl, _⟩ | ⟨_, h, _⟩
  ·simp only [lefK]; omega
  ·omega
 ·refine near_at hv hk 102 (by decide) (J := 0) (by rw [e]; rfl) (by omega) (hsc _ (by decide)) (fun t' h => ?_)
  rw [e]
  rcases h with ⟨rfl, _⟩ | ⟨_, h, _⟩
  ·simp only [lefK]; omega
  ·omega
end Go.Proofs.YtlkdmpfifpkpaaaGreatDoor

