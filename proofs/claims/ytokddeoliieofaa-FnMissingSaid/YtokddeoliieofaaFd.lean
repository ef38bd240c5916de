/-
  RegisterFix as data: the place of a repair, the note put in.
-/
import Derived.Test.YtokddeoliieofaaFa
import Derived.Test.YtokddeoliieofaaKp
namespace Go.Proofs.Ytokddeoliieofaa
open Go.RowKit

/-- how many bytes two texts have alike from the front on -/
def lcp : List UInt8 → List UInt8 → Nat
  | a :: us, b :: vs => if a = b then lcp us vs + 1 else 0
  | [], _ => 0
  | _, [] => 0
theorem lcp_le : ∀ a b, lcp a b ≤ a.length
  | a :: us, b :: vs => by
    have := lcp_le us vs
    simp only [lcp]
    split
    · simp; omega
    · simp
  | [], _ => by simp [lcp]
  | _ :: _, [] => by simp [lcp]
theorem lcp_cons {a b : UInt8} {us vs : List UInt8} {k : Nat} (h : k + 1 ≤ lcp (a :: us) (b :: vs)) : a = b ∧ k ≤ lcp us vs := by
  simp only [lcp] at h
  split at h
  · exact ⟨by assumption, by omega⟩
  · omega
theorem lcp_ne : ∀ {k : Nat} {us vs : List UInt8}, k + 1 ≤ lcp us vs → ∃ a us' vs', us = a :: us' ∧ vs = a :: vs' ∧ k ≤ lcp us' vs' := by
  intro k us vs h
  match us, vs with
  | [], _ => simp [lcp] at h
  | _ :: _, [] => simp [lcp] at h
  | a :: us', b :: vs' =>
    obtain ⟨rfl, h2⟩ := lcp_cons h
    exact ⟨a, us', vs', rfl, rfl, h2⟩
theorem lcp_take : ∀ {k : Nat} {us vs : List UInt8}, k ≤ lcp us vs → us.take k = vs.take k
  | 0, _, _, _ => by simp
  | k + 1, us, vs, h => by
    obtain ⟨a, us', vs', rfl, rfl, h2⟩ := lcp_ne h
    simp [lcp_take h2]
theorem lcp_up : ∀ {k : Nat} {us vs : List UInt8}, k ≤ lcp us vs → (h1 : k < us.length) → (h2 : k < vs.length) → us[k] = vs[k] → k + 1 ≤ lcp us vs
  | 0, a :: us, b :: vs, _, _, _, e => by
    have e : a = b := e
    simp only [lcp, if_pos e]
    omega
  | k + 1, us, vs, h, h1, h2, e => by
    obtain ⟨a, us', vs', rfl, rfl, h3⟩ := lcp_ne h
    have := lcp_up h3 (by simpa using h1) (by simpa using h2) (by simpa using e)
    simp only [lcp, if_pos]
    omega
theorem lcp_end : ∀ {k : Nat} {us vs : List UInt8}, k ≤ lcp us vs → (h1 : k < us.length) → (h2 : k < vs.length) → us[k] ≠ vs[k] → lcp us vs = k
  | 0, a :: us, b :: vs, _, _, _, e => by
    have e : ¬ a = b := e
    simp only [lcp, if_neg e]
  | k + 1, us, vs, h, h1, h2, e => by
    obtain ⟨a, us', vs', rfl, rfl, h3⟩ := lcp_ne h
    have := lcp_end h3 (by simpa using h1) (by simpa using h2) (by simpa using e)
    simp only [lcp, if_pos]
    omega
/-- the place at which a text differs from a longer one -/
def fxK (t x : ByteArray) : Nat := lcp t.data.toList x.data.toList
theorem fxK_le (t x : ByteArray) : fxK t x ≤ t.size := by
  have := lcp_le t.data.toList x.data.toList
  simpa [fxK] using this
theorem bt_list {t : ByteArray} {k : Nat} (h : k < t.data.toList.length) : bt t k = ((t.data.toList[k]).toNat : Int) := by
  have h2 : k < t.size := by simpa using h
  unfold bt
  rw [dif_pos h2]
  rfl
theorem bt_eq {t x : ByteArray} {k : Nat} (h1 : k < t.data.toList.length) (h2 : k < x.data.toList.length) : bt t k = bt x k ↔ t.data.toList[k] = x.data.toList[k] := by
  rw [bt_list h1, bt_list h2]
  constructor
  · intro h
    exact UInt8.toNat_inj.1 (by omega)
  · intro h
    rw [h]
theorem szl {t : ByteArray} {k : Nat} (h : k < t.size) : k < t.data.toList.length := by simpa using h
theorem fxK_up {t x : ByteArray} {k : Nat} (h : k ≤ fxK t x) (h1 : k < t.size) (h2 : k < x.size) (e : bt t k = bt x k) : k + 1 ≤ fxK t x :=
  lcp_up h (szl h1) (szl h2) ((bt_eq (szl h1) (szl h2)).1 e)
theorem fxK_end {t x : ByteArray} {k : Nat} (h : k ≤ fxK t x) (h1 : k < t.size) (h2 : k < x.size) (e : ¬ bt t k = bt x k) : fxK t x = k :=
  lcp_end h (szl h1) (szl h2) (fun q => e ((bt_eq (szl h1) (szl h2)).2 q))
theorem ex_list (x : ByteArray) (a b : Nat) : (x.extract a b).data.toList = (x.data.toList.drop a).take (b - a) := by
  rw [ByteArray.data_extract, Array.toList_extract]
theorem ex_pre {t x : ByteArray} {k : Nat} (h : k ≤ fxK t x) (h1 : k < t.size) (h2 : k < x.size) : ((x.extract 0 (k + 1)).toList == (t.extract 0 (k + 1)).toList) = decide (bt t k = bt x k) := by
  have hk := lcp_take h
  rw [ByteArray.toList_eq, ByteArray.toList_eq, ex_list, ex_list]
  simp only [List.drop_zero, Nat.sub_zero]
  rw [List.take_succ_eq_append_getElem (szl h1), List.take_succ_eq_append_getElem (szl h2), hk]
  by_cases e : bt t k = bt x k
  · rw [decide_eq_true e, (bt_eq (szl h1) (szl h2)).1 e]
    simp
  · rw [decide_eq_false e]
    cases e2 : (List.take k x.data.toList ++ [x.data.toList[k]'(szl h2)] == List.take k x.data.toList ++ [t.data.toList[k]'(szl h1)])
    · rfl
    · exfalso
      have e3 : List.take k x.data.toList ++ [x.data.toList[k]'(szl h2)] = List.take k x.data.toList ++ [t.data.toList[k]'(szl h1)] := by simpa using e2
      apply e
      rw [bt_eq (szl h1) (szl h2)]
      simpa using e3.symm
theorem ev_one {i : Nat} (h : i < 7) : ((⟨#[97, 99, 101, 102, 108, 111, 114]⟩ : ByteArray).extract i (i + 1)).data.toList = [evL.getD i 0] := by
  match i, h with
  | 0, _ => rfl
  | 1, _ => rfl
  | 2, _ => rfl
  | 3, _ => rfl
  | 4, _ => rfl
  | 5, _ => rfl
  | 6, _ => rfl
theorem insT_list {t : ByteArray} {p i : Nat} (hi : i < 7) : (insT t p i).data.toList = t.data.toList.take p ++ evL.getD i 0 :: t.data.toList.drop p := by
  unfold insT
  rw [ByteArray.data_append, ByteArray.data_append]
  simp only [Array.toList_append]
  rw [ev_one hi, ex_list, ex_list]
  simp only [List.drop_zero, Nat.sub_zero, List.append_assoc, List.cons_append, List.nil_append]
  rw [List.take_of_length_le (l := t.data.toList.drop p) (by simp)]
theorem ev_mem {i : Nat} (h : i < 7) : evL.getD i 0 ∈ evL := by
  match i, h with
  | 0, _ => decide
  | 1, _ => decide
  | 2, _ => decide
  | 3, _ => decide
  | 4, _ => decide
  | 5, _ => decide
  | 6, _ => decide
theorem repF_mem {t x : ByteArray} : ∀ {m : Nat}, m ≤ 7 * (t.size + 1) → x ∈ repF t m → ∃ p i, p ≤ t.size ∧ i < 7 ∧ x = insT t p i ∧ lgB x = true
  | 0, _, h => by cases h
  | m + 1, hm, h => by
    simp only [repF] at h
    split at h
    · rename_i hc
      rw [List.mem_append] at h
      rcases h with h | h
      · exact repF_mem (by omega) h
      · have e : x = insT t (m / 7) (m % 7) := by simpa using h
        subst e
        rw [Bool.and_eq_true] at hc
        exact ⟨m / 7, m % 7, by omega, by omega, rfl, hc.1⟩
    · exact repF_mem (by omega) h
theorem repL_mem {t x : ByteArray} (h : x ∈ repL t) : t.size < 30 ∧ ∃ p i, p ≤ t.size ∧ i < 7 ∧ x = insT t p i ∧ lgB x = true := by
  unfold repL at h
  split at h
  · exact ⟨by assumption, repF_mem (Nat.le_refl _) h⟩
  · cases h
theorem repL_len (t : ByteArray) : (repL t).length ≤ 210 := by
  unfold repL
  split
  · have := repF_len t (7 * (t.size + 1)); omega
  · simp
theorem repL_size {t x : ByteArray} (h : x ∈ repL t) : x.size = t.size + 1 := by
  obtain ⟨_, p, i, hp, hi, rfl, _⟩ := repL_mem h
  have e : (insT t p i).data.toList.length = t.data.toList.length + 1 := by
    rw [insT_list hi]
    have : p ≤ t.data.toList.length := by simpa using hp
    simp
    omega
  simpa using e
theorem lcp_ins : ∀ (l : List UInt8) (p : Nat) (c : UInt8), p ≤ l.length → ∃ d, l.take p ++ c :: l.drop p = l.take (lcp l (l.take p ++ c :: l.drop p)) ++ d :: l.drop (lcp l (l.take p ++ c :: l.drop p))
  | [], p, c, h => ⟨c, by simp [lcp]⟩
  | a :: us, 0, c, _ => by
    by_cases e : a = c
    · obtain ⟨d, hd⟩ := lcp_ins us 0 a (Nat.zero_le _)
      refine ⟨d, ?_⟩
      subst e
      simp only [List.take_zero, List.drop_zero, List.nil_append] at hd ⊢
      have h2 : lcp (a :: us) (a :: a :: us) = lcp us (a :: us) + 1 := by simp only [lcp, if_pos]
      rw [h2]
      simp only [List.take_succ_cons, List.drop_succ_cons, List.cons_append]
      rw [← hd]
    · refine ⟨c, ?_⟩
      have h2 : lcp (a :: us) (c :: a :: us) = 0 := by simp only [lcp, if_neg e]
      simp only [List.take_zero, List.drop_zero, List.nil_append]
      rw [h2]
      simp
  | a :: us, p + 1, c, h => by
    obtain ⟨d, hd⟩ := lcp_ins us p c (by simpa using h)
    refine ⟨d, ?_⟩
    simp only [List.take_succ_cons, List.drop_succ_cons, List.cons_append]
    have h2 : lcp (a :: us) (a :: (List.take p us ++ c :: List.drop p us)) = lcp us (List.take p us ++ c :: List.drop p us) + 1 := by simp only [lcp, if_pos]
    rw [h2]
    simp only [List.take_succ_cons, List.drop_succ_cons, List.cons_append]
    rw [← hd]
/-- the note of a repair -/
def fxZ (ns : List (Int × ByteArray)) (t x : ByteArray) : Int × ByteArray := (prM ns (fxK t x), x.extract (fxK t x) (fxK t x + 1))
/-- what RegisterFix gives -/
def fxN (ns : List (Int × ByteArray)) (l : List ByteArray) : List (Int × ByteArray) := l.map (fxZ ns (txN ns))
def fxI (ns : List (Int × ByteArray)) (l : List ByteArray) : List Int := l.map fun x => (fxK (txN ns) x : Int)
/-- the register with the note -/
def fxY (ns : List (Int × ByteArray)) (x : ByteArray) : List (Int × ByteArray) := ns.take (fxK (txN ns) x) ++ fxZ ns (txN ns) x :: ns.drop (fxK (txN ns) x)
end Go.Proofs.Ytokddeoliieofaa
