/-
  Plain laws on lines: while moves are left, some move that can be done leaves fewer.
-/
import Derived.Test.YtbachpfgakjncaaLw
namespace Go.Proofs.Ytbachpfgakjncaa
open Go.RowKit

theorem lefT_one {x y : Ln} {k : Nat} : ∀ n, k < n → (∀ q, q < n → q ≠ k → lefK (sk y q) (tk y q) = lefK (sk x q) (tk x q)) → lefT y n + lefK (sk x k) (tk x k) = lefT x n + lefK (sk y k) (tk y k)
  | 0, h, _ => by omega
  | n + 1, h, hq => by
    simp only [lefT]
    by_cases e : k = n
    · subst e
      have hs : ∀ m, m ≤ k → lefT y m = lefT x m := by
        intro m
        induction m with
        | zero => intro _; rfl
        | succ m ih =>
          intro hm
          simp only [lefT]
          rw [ih (by omega), hq m (by omega) (by omega)]
      rw [hs k (Nat.le_refl _)]
      omega
    · have ih := lefT_one (x := x) (y := y) (k := k) n (by omega) (fun q h1 h2 => hq q (by omega) h2)
      have h1 := hq n (by omega) (fun h => e h.symm)
      omega
/-- what a move does to the moves that are left -/
theorem lefT_mv {x : Ln} {k : Nat} {l : ByteArray} (ho : mvOk x k l = true) (hk : k < x.n) : lefT (mvTo x k l) x.n + lefK (sk x k) (tk x k) = lefT x x.n + lefK (mvJ x k l) (tk (mvTo x k l) k) ∧ (tk (mvTo x k l) k = tk x k ∧ ¬ (sk x k = 2 ∧ mvJ x k l = 3) ∨ tk (mvTo x k l) k + 1 = tk x k ∧ sk x k = 2 ∧ mvJ x k l = 3) := by
  obtain ⟨k', e, _, hJ, hkind⟩ := mv_kind ho
  obtain rfl : k = k' := by omega
  have hsk : sk (mvTo x k l) k = mvJ x k l := by rw [sk_mv hJ, if_pos rfl]
  have hT : ∀ q, q ≠ k → tk (mvTo x k l) q = tk x q := by
    intro q hq
    rcases hkind with ⟨hT, _⟩ | ⟨i, hi, hp, _, hT, _⟩ | ⟨i, hi, hp, _, hT, _⟩
    · unfold tk; rw [hT]; rfl
    · have h := tk_mv hi hp hT q
      rw [if_neg (by omega)] at h
      omega
    · have h := tk_mv hi hp hT q
      rw [if_neg (by omega)] at h
      omega
  constructor
  · rw [← hsk]
    refine lefT_one x.n hk (fun q h1 h2 => ?_)
    rw [sk_mv hJ, if_neg h2, hT q h2]
  · rcases hkind with ⟨hT, h3, h4⟩ | ⟨i, hi, hp, _, hT, h3, h4⟩ | ⟨i, hi, hp, _, hT, h3, h4⟩
    · left
      exact ⟨by unfold tk; rw [hT]; rfl, fun h => h4 h.2⟩
    · right
      have h := tk_mv hi hp hT k
      rw [if_pos rfl] at h
      exact ⟨h, h3, h4⟩
    · left
      have h := tk_mv hi hp hT k
      rw [if_neg (by omega)] at h
      exact ⟨by omega, fun h => by omega⟩
theorem mem_mvs {x : Ln} {k : Nat} {c : UInt8} (hk : k < x.n) (hc : c ∈ eL) (hn : nx (sk x k) c.toNat < 5) (hs : mvSk x k c = false) : ((k : Int), chr c) ∈ mvsL x := by
  unfold mvsL mvU
  rw [List.mem_flatMap]
  refine ⟨k, List.mem_range.2 hk, ?_⟩
  unfold mvK mvI
  rw [List.mem_map]
  refine ⟨c, ?_, rfl⟩
  rw [List.mem_filter]
  refine ⟨?_, by rw [hs]; rfl⟩
  rw [List.take_length]
  unfold mvLt nxT
  rw [List.mem_filter]
  exact ⟨by simpa [eL] using hc, decide_eq_true hn⟩
theorem leA_ex {f : Nat → Int} {q : Int} : ∀ m, 0 < leA f q m → ∃ i, i < m ∧ f i ≤ q
  | 0, h => by simp [leA] at h
  | m + 1, h => by
    simp only [leA] at h
    by_cases e : f m ≤ q
    · exact ⟨m, by omega, e⟩
    · rw [if_neg e] at h
      obtain ⟨i, h1, h2⟩ := leA_ex m h
      exact ⟨i, by omega, h2⟩
theorem leA_pos {f : Nat → Int} {q : Int} {i : Nat} (hf : f i ≤ q) : ∀ m, i < m → 0 < leA f q m
  | 0, h => by omega
  | m + 1, h => by
    simp only [leA]
    by_cases e : i = m
    · subst e; rw [if_pos hf]; omega
    · have := leA_pos hf m (by omega); omega
theorem cntA_pos {f : Nat → Int} {p : Int} {i : Nat} (hf : f i = p) : ∀ m, i < m → 0 < cntA f p m
  | 0, h => by omega
  | m + 1, h => by
    simp only [cntA]
    by_cases e : i = m
    · subst e; rw [if_pos hf]; omega
    · have := cntA_pos hf m (by omega); omega
theorem lefK_t {s t : Nat} (ht : 0 < t) : 0 < lefK s t := by
  unfold lefK
  split
  · omega
  · rw [if_pos ht]; omega
  · rw [if_pos ht]; omega
  · omega
  · omega
theorem lefT_ex {x : Ln} : ∀ n, 0 < lefT x n → ∃ k, k < n ∧ 0 < lefK (sk x k) (tk x k)
  | 0, h => by simp [lefT] at h
  | n + 1, h => by
    simp only [lefT] at h
    by_cases e : 0 < lefK (sk x n) (tk x n)
    · exact ⟨n, by omega, e⟩
    · have h1 := lefK_pos (sk x n) (tk x n)
      obtain ⟨k, h2, h3⟩ := lefT_ex (x := x) n (by omega)
      exact ⟨k, by omega, h3⟩
/-- a section that can go on -/
theorem sec_ex {x : Ln} (hv : vldL x = true) : ∀ k, k < x.n → 0 < lefK (sk x k) (tk x k) → ∃ q, q < x.n ∧ 0 < lefK (sk x q) (tk x q) ∧ (sk x q ≠ 2 ∨ tk x q = 0 ∨ 0 < cntA x.T (2 * (q : Int)) x.m) := by
  intro k
  induction k using Nat.strongRecOn with
  | ind k ih =>
    intro hk hl
    by_cases h1 : sk x k ≠ 2
    · exact ⟨k, hk, hl, .inl h1⟩
    by_cases h2 : tk x k = 0
    · exact ⟨k, hk, hl, .inr (.inl h2)⟩
    by_cases h3 : 0 < cntA x.T (2 * (k : Int)) x.m
    · exact ⟨k, hk, hl, .inr (.inr h3)⟩
    obtain ⟨i, hi, hle⟩ := leA_ex (f := x.T) (q := 2 * (k : Int)) x.m (by unfold tk at h2; omega)
    have hne : x.T i ≠ 2 * (k : Int) := fun e => h3 (cntA_pos e x.m hi)
    have htr := (trOk_true.1 ((vldL_true hv).2.2.2.2.1 i hi)).1.1
    obtain ⟨p, hp⟩ := Int.eq_ofNat_of_zero_le htr
    have hjk : p / 2 < k := by omega
    refine ih (p / 2) hjk (by omega) ?_
    by_cases ho : p % 2 = 0
    · refine lefK_t ?_
      exact leA_pos (f := x.T) (q := 2 * ((p / 2 : Nat) : Int)) (i := i) (by omega) x.m hi
    · have hc := cntA_pos (f := x.T) (p := 2 * ((p / 2 : Nat) : Int) + 1) (i := i) (by omega) x.m hi
      have hcn := cnOk_true.1 ((vldL_true hv).2.2.2.2.2 (p / 2) (by omega))
      rw [sk_I hv (by omega)] at hcn
      by_cases h4 : sk x (p / 2) = 3
      · rw [h4]
        show 0 < 5 * (tk x (p / 2) : Int) + 2
        omega
      · rw [decide_eq_false h4, if_neg (by simp)] at hcn
        omega
theorem near_at {x : Ln} (hv : vldL x = true) {k : Nat} (hk : k < x.n) (c : UInt8) (hc : c ∈ eL) {J : Nat} (hn : nx (sk x k) c.toNat = J) (hJ : J < 5) (hs : mvSk x k c = false)
    (hl : ∀ t', (t' = tk x k ∧ ¬ (sk x k = 2 ∧ J = 3) ∨ t' + 1 = tk x k ∧ sk x k = 2 ∧ J = 3) → lefK J t' < lefK (sk x k) (tk x k)) :
    ∃ y, y ∈ mvsL x ∧ mvOk x y.1 y.2 = true ∧ lefS (mvTo x y.1 y.2) x.n < lefS x x.n := by
  have ho : mvOk x k (chr c) = true := by
    rw [mvOk_chr hv hk, hs]
    show (true && decide (nx (sk x k) (c.toNat : Int) < 5)) = true
    rw [decide_eq_true (by omega)]
    rfl
  have hJe : mvJ x k (chr c) = J := by rw [mvJ_chr]; exact hn
  refine ⟨((k : Int), chr c), mem_mvs hk hc (by omega) hs, ho, ?_⟩
  have h := lefT_mv ho hk
  rw [hJe] at h
  have h2 := hl _ h.2
  have e1 := lefS_T hv x.n (Nat.le_refl _)
  have e2 : lefS (mvTo x k (chr c)) x.n = lefT (mvTo x k (chr c)) x.n := lefS_T (vld_mv hv ho) x.n (Nat.le_refl _)
  show lefS (mvTo x k (chr c)) x.n < _
  rw [e1, e2]
  omega
/-- while moves are left, some move leaves fewer -/
theorem near_ex {x : Ln} (hv : vldL x = true) (h0 : 0 < lefS x x.n) : ∃ y, y ∈ mvsL x ∧ mvOk x y.1 y.2 = true ∧ lefS (mvTo x y.1 y.2) x.n < lefS x x.n := by
  rw [lefS_T hv x.n (Nat.le_refl _)] at h0
  obtain ⟨k0, hk0, hl0⟩ := lefT_ex x.n h0
  obtain ⟨k, hk, hl, hgo⟩ := sec_ex hv k0 hk0 hl0
  have h5 := sk_lt hv hk
  have hsc : ∀ c : UInt8, c ≠ 101 → mvSk x k c = false := fun c h => by unfold mvSk; rw [decide_eq_false h]; rfl
  have hs5 : sk x k = 0 ∨ sk x k = 1 ∨ sk x k = 2 ∨ sk x k = 3 ∨ sk x k = 4 := by omega
  rcases hs5 with e | e | e | e | e
  · rw [e] at hl
    have ht : 0 < tk x k := by
      have : (0 : Int) < 5 * (tk x k : Int) := hl
      omega
    refine near_at hv hk 111 (by decide) (J := 1) (by rw [e]; rfl) (by omega) (hsc _ (by decide)) (fun t' h => ?_)
    rw [e]
    rcases h with ⟨rfl, _⟩ | ⟨_, h, _⟩
    · simp only [lefK, if_pos ht]; omega
    · omega
  · by_cases ht : 0 < tk x k
    · refine near_at hv hk 97 (by decide) (J := 2) (by rw [e]; rfl) (by omega) (hsc _ (by decide)) (fun t' h => ?_)
      rw [e]
      rcases h with ⟨rfl, _⟩ | ⟨_, h, _⟩
      · simp only [lefK, if_pos ht]; omega
      · omega
    · refine near_at hv hk 114 (by decide) (J := 0) (by rw [e]; rfl) (by omega) (hsc _ (by decide)) (fun t' h => ?_)
      rw [e]
      rcases h with ⟨rfl, _⟩ | ⟨_, h, _⟩
      · simp only [lefK, if_neg ht]; omega
      · omega
  · by_cases ht : 0 < tk x k
    · have hc : 0 < cntA x.T (2 * (k : Int)) x.m := by
        rcases hgo with h | h | h
        · exact absurd e h
        · omega
        · exact h
      refine near_at hv hk 101 (by decide) (J := 3) (by rw [e]; rfl) (by omega) (by unfold mvSk; rw [decide_eq_false (show ¬ cntA x.T (2 * (k : Int)) x.m = 0 by omega), Bool.and_false]) (fun t' h => ?_)
      rw [e]
      rcases h with ⟨_, h⟩ | ⟨h, _, _⟩
      · exact absurd ⟨e, rfl⟩ h
      · simp only [lefK, if_pos ht]; omega
    · refine near_at hv hk 99 (by decide) (J := 0) (by rw [e]; rfl) (by omega) (hsc _ (by decide)) (fun t' h => ?_)
      rw [e]
      rcases h with ⟨rfl, _⟩ | ⟨_, _, h⟩
      · simp only [lefK, if_neg ht]; omega
      · omega
  · refine near_at hv hk 108 (by decide) (J := 4) (by rw [e]; rfl) (by omega) (hsc _ (by decide)) (fun t' h => ?_)
    rw [e]
    rcases h with ⟨rfl, _⟩ | ⟨_, h, _⟩
    · simp only [lefK]; omega
    · omega
  · refine near_at hv hk 102 (by decide) (J := 0) (by rw [e]; rfl) (by omega) (hsc _ (by decide)) (fun t' h => ?_)
    rw [e]
    rcases h with ⟨rfl, _⟩ | ⟨_, h, _⟩
    · simp only [lefK]; omega
    · omega
end Go.Proofs.Ytbachpfgakjncaa
