/-
  The two lists of moves are one: plain laws.
-/
import Derived.Test.YtbachpfgakjncaaSf
namespace Go.Proofs.Ytbachpfgakjncaa
open Go.RowKit

theorem fst_cnt (f : Nat → Int) (p : Int) : ∀ m, fstA f p m < m ↔ ¬ cntA f p m = 0
  | 0 => by simp [cntA]
  | m + 1 => by
    have ih := fst_cnt f p m
    have hle := fstA_le f p m
    simp only [fstA, cntA]
    by_cases h : fstA f p m < m
    · rw [if_pos h]
      have := ih.1 h
      omega
    · rw [if_neg h]
      have h0 : cntA f p m = 0 := Classical.byContradiction (fun q => h (ih.2 q))
      rw [h0]
      by_cases e : f m = p
      · rw [if_pos e, if_pos e]; omega
      · rw [if_neg e, if_neg e]; omega
theorem bt_chr (c : UInt8) : bt (chr c) 0 = (c.toNat : Int) := by
  have h : 0 < (chr c).size := by show 0 < 1; omega
  rw [← bt_at h]
  rfl
theorem mvJ_chr (x : Ln) (k : Nat) (c : UInt8) : mvJ x k (chr c) = nx (stI (x.N k) (x.I k) (x.O k)) (c.toNat : Int) := by
  show bsI (x.N k) (x.I k) (x.O k) (chr c) = _
  unfold bsI
  rw [if_pos (show (chr c).size = 1 from rfl), bt_chr]
theorem chr_eq (c d : UInt8) : (chr c = chr d) ↔ c = d := by
  constructor
  · intro h
    have := congrArg (fun b : ByteArray => b.data) h
    simpa [chr] using this
  · intro h; rw [h]
theorem mvOk_chr {x : Ln} (hv : vldL x = true) {k : Nat} (hk : k < x.n) (c : UInt8) : mvOk x k (chr c) = (!mvSk x k c && decide (nx (stI (x.N k) (x.I k) (x.O k)) (c.toNat : Int) < 5)) := by
  obtain ⟨_, _, _, _, _, hcn⟩ := vldL_true hv
  have hin : inB (k : Int) 0 ((x.n : Int) - 1) = true := inB_true.2 (by omega)
  unfold mvOk
  rw [hin, mvJ_chr, Bool.true_and]
  by_cases h1 : c = 101
  · subst h1
    have he : eB (chr 101) = true := decide_eq_true rfl
    have hp : plI (k : Int) (chr 101) = 2 * k := if_pos he
    rw [he, hp, Bool.true_or, Bool.not_true, Bool.false_or]
    unfold mvSk
    have hd : decide (fstA x.T (2 * (k : Int)) x.m < x.m) = !decide (cntA x.T (2 * (k : Int)) x.m = 0) := by
      by_cases h : cntA x.T (2 * (k : Int)) x.m = 0
      · rw [decide_eq_true h, decide_eq_false (fun q => (fst_cnt _ _ _).1 q h)]; rfl
      · rw [decide_eq_false h, decide_eq_true ((fst_cnt _ _ _).2 h)]; rfl
    rw [hd, decide_eq_true rfl, Bool.true_and, Bool.and_comm]
  · have he : eB (chr c) = false := decide_eq_false (fun h => h1 ((chr_eq c 101).1 h))
    have hs : mvSk x k c = false := by unfold mvSk; rw [decide_eq_false h1]; rfl
    rw [he, hs]
    by_cases h2 : c = 108
    · subst h2
      have hl : lB (chr 108) = true := decide_eq_true rfl
      have hp : plI (k : Int) (chr 108) = 2 * k + 1 := by unfold plI; rw [if_neg (by simp [he]), if_pos hl]
      rw [hl, hp]
      by_cases h5 : nx (stI (x.N k) (x.I k) (x.O k)) ((108 : UInt8).toNat : Int) < 5
      · rw [decide_eq_true h5]
        have hst : stI (x.N k) (x.I k) (x.O k) = 3 := by
          revert h5
          generalize stI (x.N k) (x.I k) (x.O k) = s
          intro h5
          match s with
          | 0 => revert h5; decide
          | 1 => revert h5; decide
          | 2 => revert h5; decide
          | 3 => rfl
          | 4 => revert h5; decide
          | s + 5 => revert h5; simp [nx]
        have hI : x.I k = true := (stI_B hst (by omega)).2.1
        have hc := hcn k hk
        unfold cnOk at hc
        rw [hI] at hc
        have hc1 : cntA x.T (2 * (k : Int) + 1) x.m = 1 := by simpa using hc
        have hf : fstA x.T (2 * (k : Int) + 1) x.m < x.m := (fst_cnt _ _ _).2 (by omega)
        rw [decide_eq_true hf]
        rfl
      · rw [decide_eq_false h5]
        rfl
    · have hl : lB (chr c) = false := decide_eq_false (fun h => h2 ((chr_eq c 108).1 h))
      rw [hl]
      simp
theorem spI_mvK {x : Ln} (hv : vldL x = true) {k : Nat} (hk : k < x.n) : spI x k 7 = mvK x k := by
  unfold spI mvK mvI mvLt nxT
  rw [List.take_length, List.filter_filter]
  congr 1
  apply List.filter_congr
  intro c _
  exact mvOk_chr hv hk c
theorem spU_mvU {x : Ln} (hv : vldL x = true) : ∀ k, k ≤ x.n → spU x k = mvU x k
  | 0, _ => by simp [spU, mvU]
  | k + 1, hk => by rw [spU_succ, mvU_succ, spU_mvU hv k (by omega), spI_mvK hv (by omega)]
theorem spL_lmL (x : Ln) : spL x = lmL x := by
  unfold spL lmL
  by_cases hv : vldL x = true
  · rw [if_pos hv, if_pos hv, spU_mvU hv x.n (Nat.le_refl _)]; rfl
  · rw [if_neg hv, if_neg hv]
theorem lmL_len (x : Ln) : (lmL x).length ≤ 35 := by
  unfold lmL
  split
  · rename_i h
    have h1 := (vldL_true h).2.1
    have h2 := mvU_len x x.n
    unfold mvsL
    omega
  · simp
end Go.Proofs.Ytbachpfgakjncaa
