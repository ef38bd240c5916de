/-
  Orders of trains as lists of letters: ranks, the order with a rank, the least of a list. Plain.
-/
import Derived.Test.YtnhkijfibiffnaaNt
namespace Go.Proofs.Ytnhkijfibiffnaa
open Go.RowKit

/-- a list is an order of a trains U and b trains D -/
def ordL : List UInt8 → Nat → Nat → Bool
  | [], a, b => a == 0 && b == 0
  | c :: l, a, b => if c = 85 then decide (0 < a) && ordL l (a - 1) b else (c == 68 && (decide (0 < b) && ordL l a (b - 1)))
theorem ordL_cons {c : UInt8} {l : List UInt8} {a b : Nat} (h : ordL (c :: l) a b = true) : (c = 85 ∧ 0 < a ∧ ordL l (a - 1) b = true) ∨ (c = 68 ∧ 0 < b ∧ ordL l a (b - 1) = true) := by
  unfold ordL at h
  split at h
  · rename_i e
    simp only [Bool.and_eq_true, decide_eq_true_eq] at h
    exact .inl ⟨e, h.1, h.2⟩
  · simp only [Bool.and_eq_true, decide_eq_true_eq, beq_iff_eq] at h
    exact .inr ⟨h.1, h.2.1, h.2.2⟩
theorem ordL_U {l : List UInt8} {a b : Nat} (ha : 0 < a) (h : ordL l (a - 1) b = true) : ordL (85 :: l) a b = true := by
  unfold ordL
  rw [if_pos rfl, h]
  simpa using ha
theorem ordL_D {l : List UInt8} {a b : Nat} (hb : 0 < b) (h : ordL l a (b - 1) = true) : ordL (68 :: l) a b = true := by
  unfold ordL
  rw [if_neg (by decide), h]
  simpa using hb
theorem ordL_len : ∀ (l : List UInt8) (a b : Nat), ordL l a b = true → l.length = a + b
  | [], a, b, h => by simp [ordL] at h; simp [h.1, h.2]
  | c :: l, a, b, h => by
    rcases ordL_cons h with ⟨_, ha, h⟩ | ⟨_, hb, h⟩
    · have := ordL_len l _ _ h; simp; omega
    · have := ordL_len l _ _ h; simp; omega
/-- its rank -/
def rkL : List UInt8 → Nat → Nat → Nat
  | [], _, _ => 0
  | c :: l, a, b => if c = 85 then fstN a b + rkL l (a - 1) b else rkL l a (b - 1)
theorem rkL_U {l : List UInt8} {a b : Nat} : rkL (85 :: l) a b = fstN a b + rkL l (a - 1) b := if_pos rfl
theorem rkL_D {l : List UInt8} {a b : Nat} : rkL (68 :: l) a b = rkL l a (b - 1) := if_neg (by decide)

theorem pasc_sum {a b : Nat} (ha : 0 < a) : pasc a b = fstN a b + pasc (a - 1) b := by
  obtain ⟨a, rfl⟩ : ∃ a', a = a' + 1 := ⟨a - 1, by omega⟩
  by_cases hb : b = 0
  · subst hb
    rw [fstN_zero, pasc_right, pasc_right]
  · obtain ⟨b, rfl⟩ : ∃ b', b = b' + 1 := ⟨b - 1, by omega⟩
    rw [fstN_succ, pasc_step]
    simp only [Nat.add_sub_cancel]
    omega
theorem fstN_lt {a b : Nat} (hb : 0 < b) : fstN a b = pasc a (b - 1) := by unfold fstN; rw [if_pos hb]
theorem fstN_le_pasc (a b : Nat) : fstN a b ≤ pasc a b := by
  by_cases ha : 0 < a
  · rw [pasc_sum ha]; omega
  · obtain rfl : a = 0 := by omega
    unfold fstN
    split
    · rw [pasc_left, pasc_left]; exact Nat.le_refl _
    · omega

theorem nth_ord : ∀ (n a b r : Nat), n = a + b → r < pasc a b → ordL (nthL n a b r) a b = true ∧ rkL (nthL n a b r) a b = r
  | 0, a, b, r, hn, hr => by
    obtain rfl : a = 0 := by omega
    obtain rfl : b = 0 := by omega
    rw [pasc_left] at hr
    exact ⟨rfl, by simp [nthL, rkL]; omega⟩
  | n + 1, a, b, r, hn, hr => by
    by_cases h : r < fstN a b
    · have h1 := nth_down h
      have ih := nth_ord n a (b - 1) r (by omega) h1.2
      rw [nthL_D h]
      exact ⟨ordL_D h1.1 ih.1, by rw [rkL_D, ih.2]⟩
    · have h1 := nth_up hr (by omega) h
      have ih := nth_ord n (a - 1) b (r - fstN a b) (by omega) h1.2
      rw [nthL_U h]
      exact ⟨ordL_U h1.1 ih.1, by rw [rkL_U, ih.2]; omega⟩
theorem rk_nth : ∀ (l : List UInt8) (a b : Nat), ordL l a b = true → rkL l a b < pasc a b ∧ nthL l.length a b (rkL l a b) = l
  | [], a, b, h => ⟨by have := pasc_pos a b; simp [rkL]; omega, rfl⟩
  | c :: l, a, b, h => by
    rcases ordL_cons h with ⟨rfl, ha, h⟩ | ⟨rfl, hb, h⟩
    · have ih := rk_nth l _ _ h
      rw [rkL_U]
      refine ⟨by rw [pasc_sum ha]; omega, ?_⟩
      rw [List.length_cons, nthL_U (by omega), show fstN a b + rkL l (a - 1) b - fstN a b = rkL l (a - 1) b from by omega, ih.2]
    · have ih := rk_nth l _ _ h
      rw [rkL_D]
      have hf : rkL l a (b - 1) < fstN a b := by rw [fstN_lt hb]; exact ih.1
      refine ⟨Nat.lt_of_lt_of_le hf (fstN_le_pasc a b), ?_⟩
      rw [List.length_cons, nthL_D hf, ih.2]
theorem rk_inj {l l' : List UInt8} {a b : Nat} (h : ordL l a b = true) (h' : ordL l' a b = true) (e : rkL l a b = rkL l' a b) : l = l' := by
  have h1 := (rk_nth l a b h).2
  have h2 := (rk_nth l' a b h').2
  rw [ordL_len _ _ _ h] at h1
  rw [ordL_len _ _ _ h'] at h2
  rw [← h1, ← h2, e]

/-- the byte at a place -/
def ltr (l : List UInt8) (k : Nat) : Int := ((l[k]?).map fun c => (c.toNat : Int)).getD 0
theorem bt_strOf (l : List UInt8) : bt (strOf l) = ltr l := by
  funext k
  unfold bt ltr
  by_cases h : k < l.length
  · have h' : k < (strOf l).size := by rw [strOf_size]; exact h
    rw [dif_pos h', List.getElem?_eq_getElem h]
    rfl
  · rw [dif_neg (by rw [strOf_size]; exact h), List.getElem?_eq_none (by omega)]
    rfl
theorem strOf_data (s : ByteArray) : strOf s.data.toList = s := by
  apply ByteArray.ext
  simp [strOf]
theorem ltr_zero (c : UInt8) (l : List UInt8) : ltr (c :: l) 0 = (c.toNat : Int) := rfl
theorem ltr_succ (c : UInt8) (l : List UInt8) (k : Nat) : ltr (c :: l) (k + 1) = ltr l k := rfl
theorem ltr_cons (c : UInt8) (l : List UInt8) : (fun i => ltr (c :: l) (i + 1)) = ltr l := rfl
theorem u85 {c : UInt8} : (c.toNat : Int) = 85 ↔ c = 85 := by
  constructor
  · intro h
    apply UInt8.toNat_inj.1
    show c.toNat = 85
    omega
  · rintro rfl; rfl
theorem u68 {c : UInt8} : (c.toNat : Int) = 68 ↔ c = 68 := by
  constructor
  · intro h
    apply UInt8.toNat_inj.1
    show c.toNat = 68
    omega
  · rintro rfl; rfl

theorem cntU_shift (c : Nat → Int) : ∀ k, cntU c (k + 1) = (if c 0 = 85 then 1 else 0) + cntU (fun i => c (i + 1)) k
  | 0 => by simp only [cntU]; split <;> rfl
  | k + 1 => by
    have ih := cntU_shift c k
    rw [cntU, ih, cntU]
    split <;> omega
theorem cntU_len : ∀ (l : List UInt8) (a b : Nat), ordL l a b = true → cntU (ltr l) l.length = a
  | [], a, b, h => by simp [ordL] at h; simp [cntU, h.1]
  | c :: l, a, b, h => by
    rw [List.length_cons, cntU_shift, ltr_cons, ltr_zero]
    rcases ordL_cons h with ⟨rfl, ha, h⟩ | ⟨rfl, hb, h⟩
    · rw [cntU_len l _ _ h]; simp; omega
    · rw [cntU_len l _ _ h]; simp
theorem rkT_shift (na nb : Nat) (c : Nat → Int) (h0 : c 0 = 85 ∨ c 0 = 68) : ∀ k, rkT na nb c (k + 1) = if c 0 = 85 then fstN na nb + rkT (na - 1) nb (fun i => c (i + 1)) k else rkT na (nb - 1) (fun i => c (i + 1)) k
  | 0 => by
    rcases h0 with h | h
    · simp [rkT, h, cntU]
    · simp [rkT, h]
  | k + 1 => by
    have ih := rkT_shift na nb c h0 k
    have hs := cntU_shift c k
    have hle := cntU_le (fun i => c (i + 1)) k
    rw [rkT, ih]
    rcases h0 with h | h
    · rw [if_pos h] at hs
      rw [if_pos h, if_pos h, rkT, hs]
      have e1 : na - (1 + cntU (fun i => c (i + 1)) k) = na - 1 - cntU (fun i => c (i + 1)) k := by omega
      have e2 : nb - (k + 1 - (1 + cntU (fun i => c (i + 1)) k)) = nb - (k - cntU (fun i => c (i + 1)) k) := by omega
      rw [e1, e2]
      omega
    · have h85 : ¬ c 0 = 85 := by omega
      rw [if_neg h85] at hs
      rw [if_neg h85, if_neg h85, rkT, hs]
      have e1 : na - (0 + cntU (fun i => c (i + 1)) k) = na - cntU (fun i => c (i + 1)) k := by omega
      have e2 : nb - (k + 1 - (0 + cntU (fun i => c (i + 1)) k)) = nb - 1 - (k - cntU (fun i => c (i + 1)) k) := by omega
      rw [e1, e2]
theorem rkT_L : ∀ (l : List UInt8) (a b : Nat), ordL l a b = true → rkT a b (ltr l) l.length = rkL l a b
  | [], _, _, _ => rfl
  | c :: l, a, b, h => by
    rcases ordL_cons h with ⟨rfl, ha, h⟩ | ⟨rfl, hb, h⟩
    · rw [List.length_cons, rkT_shift _ _ _ (.inl rfl), if_pos (show ltr (85 :: l) 0 = 85 from rfl), ltr_cons, rkT_L l _ _ h, rkL_U]
    · rw [List.length_cons, rkT_shift _ _ _ (.inr rfl), if_neg (by rw [ltr_zero]; decide), ltr_cons, rkT_L l _ _ h, rkL_D]

theorem ltr_all : ∀ (l : List UInt8) (a b : Nat), ordL l a b = true → ∀ k, k < l.length → ltr l k = 85 ∨ ltr l k = 68
  | [], _, _, _, k, hk => by simp at hk
  | c :: l, a, b, h, k, hk => by
    rcases ordL_cons h with ⟨rfl, ha, h⟩ | ⟨rfl, hb, h⟩
    · cases k with
      | zero => exact .inl rfl
      | succ k => exact ltr_all l _ _ h k (by simpa using hk)
    · cases k with
      | zero => exact .inr rfl
      | succ k => exact ltr_all l _ _ h k (by simpa using hk)
theorem ordL_of : ∀ (l : List UInt8) (a b : Nat), (∀ k, k < l.length → ltr l k = 85 ∨ ltr l k = 68) → cntU (ltr l) l.length = a → l.length = a + b → ordL l a b = true
  | [], a, b, _, hc, hl => by
    simp [cntU] at hc
    subst hc
    simp at hl
    simp [ordL, hl]
  | c :: l, a, b, ha, hc, hl => by
    rw [List.length_cons, cntU_shift, ltr_cons, ltr_zero] at hc
    rw [List.length_cons] at hl
    have h0 := ha 0 (by simp)
    have hr : ∀ k, k < l.length → ltr l k = 85 ∨ ltr l k = 68 := fun k hk => ha (k + 1) (by simpa using hk)
    rw [ltr_zero, u85, u68] at h0
    rcases h0 with rfl | rfl
    · rw [if_pos (by decide)] at hc
      exact ordL_U (by omega) (ordL_of l _ _ hr (by omega) (by omega))
    · rw [if_neg (by decide)] at hc
      have := cntU_le (ltr l) l.length
      exact ordL_D (by omega) (ordL_of l _ _ hr (by omega) (by omega))
theorem ordOk_L (x : Sg) (l : List UInt8) : ordOk x (strOf l) = ordL l x.na x.nb := by
  cases h : ordL l x.na x.nb
  · cases h' : ordOk x (strOf l)
    · rfl
    · obtain ⟨h1, h2, h3⟩ := ordOk_true.1 h'
      rw [bt_strOf] at h1 h2
      rw [strOf_size] at h1 h2 h3
      rw [ordL_of l _ _ h1 h2 h3] at h
      cases h
  · refine ordOk_true.2 ⟨?_, ?_, ?_⟩
    · rw [bt_strOf, strOf_size]; exact ltr_all l _ _ h
    · rw [bt_strOf, strOf_size]; exact cntU_len l _ _ h
    · rw [strOf_size]; exact ordL_len l _ _ h
theorem ordOk_data {x : Sg} {s : ByteArray} (h : ordOk x s = true) : ordL s.data.toList x.na x.nb = true := by
  rw [← ordOk_L, strOf_data]; exact h

/-- the order with a rank is one, and has it -/
theorem nthFull_ord {x : Sg} {r : Nat} (hr : r < pasc x.na x.nb) : ordOk x (strOf (nthFull x (r : Int))) = true := by
  rw [ordOk_L]
  unfold nthFull
  rw [Int.toNat_natCast]
  exact (nth_ord _ _ _ _ rfl hr).1
theorem rank_nthFull {x : Sg} {r : Nat} (hs : sgOk x = true) (hr : r < pasc x.na x.nb) : rankV x (strOf (nthFull x (r : Int))) = (r : Int) := by
  have ho := nthFull_ord hr
  rw [rankV_yes (stOk_yes hs ho), bt_strOf, strOf_size]
  have h1 := ho
  rw [ordOk_L] at h1
  rw [rkT_L _ _ _ h1]
  unfold nthFull
  rw [Int.toNat_natCast, (nth_ord _ _ _ _ rfl hr).2]
theorem nth_rank {x : Sg} {s : ByteArray} (h : stOk x s = true) : ∃ r : Nat, rankV x s = (r : Int) ∧ r < pasc x.na x.nb ∧ strOf (nthFull x (r : Int)) = s := by
  obtain ⟨hb, ho⟩ := stOk_parts h
  have hl := ordOk_data ho
  have h1 := rk_nth _ _ _ hl
  have hlen := ordL_len _ _ _ hl
  refine ⟨rkL s.data.toList x.na x.nb, ?_, h1.1, ?_⟩
  · have := rkT_L _ _ _ hl
    rw [rankV_yes h, ← this, ← bt_strOf, strOf_data]
    congr 2
  · unfold nthFull
    rw [Int.toNat_natCast, ← hlen, h1.2, strOf_data]

/-- the orders are sorted -/
theorem nthL_lt : ∀ (n a b r r' : Nat), n = a + b → r < r' → r' < pasc a b → nthL n a b r < nthL n a b r'
  | 0, a, b, r, r', hn, h, h' => by
    obtain rfl : a = 0 := by omega
    rw [pasc_left] at h'
    omega
  | n + 1, a, b, r, r', hn, h, h' => by
    by_cases h2 : r' < fstN a b
    · have h1 : r < fstN a b := by omega
      have hd := nth_down h2
      rw [nthL_D h1, nthL_D h2]
      exact List.Lex.cons (nthL_lt n a (b - 1) r r' (by omega) h hd.2)
    · by_cases h1 : r < fstN a b
      · rw [nthL_D h1, nthL_U h2]
        exact List.Lex.rel (by decide)
      · have hu := nth_up h' (by omega) h2
        rw [nthL_U h1, nthL_U h2]
        exact List.Lex.cons (nthL_lt n (a - 1) b _ _ (by omega) (by omega) hu.2)

/-- the place of the first least value of n + 1 -/
def fstMin (f : Nat → Int) : Nat → Nat
  | 0 => 0
  | k + 1 => if f (k + 1) < f (fstMin f k) then k + 1 else fstMin f k
theorem fstMin_le (f : Nat → Int) : ∀ k, fstMin f k ≤ k
  | 0 => Nat.le_refl _
  | k + 1 => by have := fstMin_le f k; simp only [fstMin]; split <;> omega
theorem fstMin_min (f : Nat → Int) : ∀ k j, j ≤ k → f (fstMin f k) ≤ f j
  | 0, j, h => by obtain rfl : j = 0 := by omega
                  exact Int.le_refl _
  | k + 1, j, h => by
    simp only [fstMin]
    by_cases e : j = k + 1
    · subst e
      split <;> omega
    · have := fstMin_min f k j (by omega)
      split <;> omega
theorem fstMin_first (f : Nat → Int) : ∀ k j, j < fstMin f k → f (fstMin f k) < f j
  | 0, j, h => by simp [fstMin] at h
  | k + 1, j, h => by
    simp only [fstMin] at h ⊢
    split
    · rename_i hlt
      rw [if_pos hlt] at h
      have := fstMin_min f k j (by omega)
      omega
    · rename_i hge
      rw [if_neg hge] at h
      exact fstMin_first f k j h
end Go.Proofs.Ytnhkijfibiffnaa
