/-
  Plain laws on lines: a move keeps a line valid; what it does to the moves that are left.
-/
import Derived.Test.YtbachpfgakjncaaLm
namespace Go.Proofs.Ytbachpfgakjncaa
open Go.RowKit

theorem stB_i {j : Nat} (h : j < 5) : (stB j).i = decide (j = 3) := by
  match j, h with
  | 0, _ => rfl
  | 1, _ => rfl
  | 2, _ => rfl
  | 3, _ => rfl
  | 4, _ => rfl
theorem nx_cases {s : Nat} {c : Int} (h : nx s c < 5) :
    (s = 0 ∧ c = 111 ∧ nx s c = 1) ∨ (s = 1 ∧ c = 114 ∧ nx s c = 0) ∨ (s = 1 ∧ c = 97 ∧ nx s c = 2) ∨ (s = 2 ∧ c = 99 ∧ nx s c = 0) ∨ (s = 2 ∧ c = 101 ∧ nx s c = 3) ∨ (s = 3 ∧ c = 108 ∧ nx s c = 4) ∨ (s = 4 ∧ c = 102 ∧ nx s c = 0) := by
  match s with
  | 0 => simp only [nx] at h ⊢; split at h <;> rename_i e <;> simp [e] at h ⊢
  | 1 => simp only [nx] at h ⊢
         by_cases e : c = 114
         · simp [e]
         · by_cases e2 : c = 97
           · simp [e2]
           · simp [e, e2] at h
  | 2 => simp only [nx] at h ⊢
         by_cases e : c = 99
         · simp [e]
         · by_cases e2 : c = 101
           · simp [e2]
           · simp [e, e2] at h
  | 3 => simp only [nx] at h ⊢; split at h <;> rename_i e <;> simp [e] at h ⊢
  | 4 => simp only [nx] at h ⊢; split at h <;> rename_i e <;> simp [e] at h ⊢
  | s + 5 => simp [nx] at h
theorem chr_of {l : ByteArray} (h : l.size = 1) : ∃ c, l = chr c := by
  obtain ⟨d⟩ := l
  have h1 : d.size = 1 := h
  obtain ⟨l⟩ := d
  have h2 : l.length = 1 := by simpa using h1
  match l, h2 with
  | [c], _ => exact ⟨c, rfl⟩
theorem bsI_sz {n : Int} {i o : Bool} {l : ByteArray} (h : bsI n i o l < 5) : l.size = 1 := by
  unfold bsI at h
  split at h
  · assumption
  · omega
/-- the state of a section -/
def sk (x : Ln) (k : Nat) : Nat := stI (x.N k) (x.I k) (x.O k)
theorem sk_lt {x : Ln} (hv : vldL x = true) {k : Nat} (hk : k < x.n) : sk x k < 5 := by
  have h := (vldL_true hv).2.2.2.1 k hk
  exact of_decide_eq_true h
theorem sk_I {x : Ln} (hv : vldL x = true) {k : Nat} (hk : k < x.n) : x.I k = decide (sk x k = 3) := by
  have h5 := sk_lt hv hk
  have h := (stI_B (n := x.N k) (i := x.I k) (o := x.O k) rfl h5).2.1
  rw [h]
  exact stB_i h5
theorem sk_N {x : Ln} (hv : vldL x = true) {k : Nat} (hk : k < x.n) : x.N k = (stB (sk x k)).n ∧ x.O k = (stB (sk x k)).o :=
  ⟨(stI_B rfl (sk_lt hv hk)).1, (stI_B rfl (sk_lt hv hk)).2.2⟩
/-- what a move that can be done is -/
theorem mv_is {x : Ln} {s : Int} {l : ByteArray} (ho : mvOk x s l = true) : ∃ (k : Nat) (c : UInt8), s = k ∧ k < x.n ∧ l = chr c ∧ mvJ x s l = nx (sk x k) c.toNat ∧ mvJ x s l < 5 ∧ ((eB l || lB l) = true → fstA x.T (plI s l) x.m < x.m) := by
  simp only [mvOk, Bool.and_eq_true, inB_true, decide_eq_true_eq, Bool.or_eq_true, Bool.not_eq_true'] at ho
  obtain ⟨⟨h0, h1⟩, h2, h3⟩ := ho
  obtain ⟨k, rfl⟩ := Int.eq_ofNat_of_zero_le h0
  obtain ⟨c, rfl⟩ := chr_of (bsI_sz (n := x.N k) (i := x.I k) (o := x.O k) h2)
  refine ⟨k, c, rfl, by omega, rfl, mvJ_chr x k c, h2, fun h => ?_⟩
  rcases h3 with h3 | h3
  · rw [h3] at h; cases h
  · exact h3
theorem cntA_upd_out {f : Nat → Int} (i : Nat) {v q : Int} : ∀ m, m ≤ i → cntA (upd f i v) q m = cntA f q m
  | 0, _ => rfl
  | m + 1, h => by
    simp only [cntA]
    rw [cntA_upd_out i m (by omega), show upd f i v m = f m from if_neg (show ¬ m = i by omega)]
theorem cntA_upd {f : Nat → Int} {i : Nat} {v q : Int} : ∀ m, i < m → cntA (upd f i v) q m + (if f i = q then 1 else 0) = cntA f q m + (if v = q then 1 else 0)
  | 0, h => by omega
  | m + 1, h => by
    simp only [cntA]
    by_cases e : i = m
    · subst e
      rw [cntA_upd_out i i (Nat.le_refl _), show upd f i v i = v from if_pos rfl]
      omega
    · have ih := cntA_upd (f := f) (i := i) (v := v) (q := q) m (by omega)
      rw [show upd f i v m = f m from if_neg (fun h => e h.symm)]
      omega
theorem leA_upd_out {f : Nat → Int} (i : Nat) {v q : Int} : ∀ m, m ≤ i → leA (upd f i v) q m = leA f q m
  | 0, _ => rfl
  | m + 1, h => by
    simp only [leA]
    rw [leA_upd_out i m (by omega), show upd f i v m = f m from if_neg (show ¬ m = i by omega)]
theorem leA_upd {f : Nat → Int} {i : Nat} {v q : Int} : ∀ m, i < m → leA (upd f i v) q m + (if f i ≤ q then 1 else 0) = leA f q m + (if v ≤ q then 1 else 0)
  | 0, h => by omega
  | m + 1, h => by
    simp only [leA]
    by_cases e : i = m
    · subst e
      rw [leA_upd_out i i (Nat.le_refl _), show upd f i v i = v from if_pos rfl]
      omega
    · have ih := leA_upd (f := f) (i := i) (v := v) (q := q) m (by omega)
      rw [show upd f i v m = f m from if_neg (fun h => e h.symm)]
      omega
theorem fstA_before (f : Nat → Int) (p : Int) : ∀ m j, j < fstA f p m → f j ≠ p
  | 0, j, h => by simp [fstA] at h
  | m + 1, j, h => by
    have ih := fstA_before f p m j
    have hle := fstA_le f p m
    simp only [fstA] at h
    split at h
    · exact ih h
    · rename_i hn
      have e : fstA f p m = m := by omega
      split at h
      · exact ih (by omega)
      · rename_i h2
        by_cases ej : j = m
        · rw [ej]; exact h2
        · exact ih (by omega)
theorem trOk_true {x : Ln} {i : Nat} : trOk x i = true ↔ (0 ≤ x.T i ∧ x.T i ≤ 2 * (x.n : Int)) ∧ (i = 0 ∨ x.T i ≤ x.T (i - 1)) := by
  simp [trOk, inB_true]
theorem plI_e (s : Int) : plI s (chr 101) = 2 * s := if_pos (decide_eq_true rfl)
theorem plI_l (s : Int) : plI s (chr 108) = 2 * s + 1 := by
  unfold plI
  rw [if_neg (by simp [eB, chr_eq]), if_pos (show lB (chr 108) = true from decide_eq_true rfl)]
theorem el_no {c : UInt8} (h1 : c ≠ 101) (h2 : c ≠ 108) : (eB (chr c) || lB (chr c)) = false := by
  rw [show eB (chr c) = false from decide_eq_false (fun h => h1 ((chr_eq c 101).1 h)), show lB (chr c) = false from decide_eq_false (fun h => h2 ((chr_eq c 108).1 h))]
  rfl
theorem el_e : (eB (chr 101) || lB (chr 101)) = true := by
  rw [show eB (chr 101) = true from decide_eq_true rfl]; rfl
theorem el_l : (eB (chr 108) || lB (chr 108)) = true := by
  rw [show lB (chr 108) = true from decide_eq_true rfl, Bool.or_true]
/-- a move by its kind: its section k, the state behind it J; no train turns, or train i goes from p to p + 1 -/
theorem mv_kind {x : Ln} {s : Int} {l : ByteArray} (ho : mvOk x s l = true) : ∃ k : Nat, s = k ∧ k < x.n ∧ mvJ x s l < 5 ∧
    ((mvTo x s l).T = x.T ∧ sk x k ≠ 3 ∧ mvJ x s l ≠ 3 ∨
     (∃ i, i < x.m ∧ x.T i = 2 * k ∧ (∀ j, j < i → x.T j ≠ 2 * k) ∧ (mvTo x s l).T = upd x.T i (2 * k + 1) ∧ sk x k = 2 ∧ mvJ x s l = 3) ∨
     (∃ i, i < x.m ∧ x.T i = 2 * k + 1 ∧ (∀ j, j < i → x.T j ≠ 2 * k + 1) ∧ (mvTo x s l).T = upd x.T i (2 * k + 1 + 1) ∧ sk x k = 3 ∧ mvJ x s l = 4)) := by
  obtain ⟨k, c, rfl, hk, rfl, hJ, hJ5, hf⟩ := mv_is ho
  refine ⟨k, rfl, hk, hJ5, ?_⟩
  rw [hJ] at hJ5
  have hc : ∀ d : UInt8, ((c.toNat : Nat) : Int) = (d.toNat : Int) → c = d := fun d h => UInt8.toNat_inj.1 (by omega)
  by_cases h1 : c = 101
  · subst h1
    right; left
    have hi := hf el_e
    rw [plI_e] at hi
    refine ⟨_, hi, fstA_at _ _ _ hi, fstA_before _ _ _, ?_, ?_⟩
    · unfold mvTo
      simp only [el_e, if_true, plI_e]
    · rcases nx_cases hJ5 with h | h | h | h | h | h | h <;> (obtain ⟨a, b, d⟩ := h; try (exfalso; revert b; decide))
      exact ⟨a, by rw [hJ, d]⟩
  by_cases h2 : c = 108
  · subst h2
    right; right
    have hi := hf el_l
    rw [plI_l] at hi
    refine ⟨_, hi, fstA_at _ _ _ hi, fstA_before _ _ _, ?_, ?_⟩
    · unfold mvTo
      simp only [el_l, if_true, plI_l]
    · rcases nx_cases hJ5 with h | h | h | h | h | h | h <;> (obtain ⟨a, b, d⟩ := h; try (exfalso; revert b; decide))
      exact ⟨a, by rw [hJ, d]⟩
  · left
    refine ⟨?_, ?_⟩
    · unfold mvTo
      simp only [el_no h1 h2, Bool.false_eq_true, if_false]
    · rw [hJ]
      rcases nx_cases hJ5 with h | h | h | h | h | h | h <;> obtain ⟨a, b, d⟩ := h
      · rw [a] at d ⊢; omega
      · rw [a] at d ⊢; omega
      · rw [a] at d ⊢; omega
      · rw [a] at d ⊢; omega
      · exact absurd (hc 101 b) h1
      · exact absurd (hc 108 b) h2
      · rw [a] at d ⊢; omega
end Go.Proofs.Ytbachpfgakjncaa
