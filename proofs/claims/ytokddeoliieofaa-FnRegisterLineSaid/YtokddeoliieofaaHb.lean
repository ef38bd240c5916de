/-
  Plain law: the registers of the moves that make a new line done.
-/
import Derived.Test.YtokddeoliieofaaHa
import Derived.Test.YtokddeoliieofaaKq
import Derived.Test.YtokddeoliieofaaWz
namespace Go.Proofs.Ytokddeoliieofaa
open Go.RowKit

theorem mvM_at {ms : List (Int × ByteArray)} {i : Nat} (h : i < ms.length) : mvM ms i = (ms[i]).1 ∧ mvS ms i = (ms[i]).2 := by
  unfold mvM mvS
  rw [List.getElem?_eq_getElem h]
  exact ⟨rfl, rfl⟩
theorem roF_text {ms : List (Int × ByteArray)} {ts : Nat → Int} {k : Int} : ∀ {i : Nat}, i ≤ ms.length → rgT (roF ms ts k i) = txL (ms.take i) k
  | 0, _ => rfl
  | i + 1, h => by
    have ih := roF_text (ms := ms) (ts := ts) (k := k) (i := i) (by omega)
    have e : ms.take (i + 1) = ms.take i ++ [ms[i]] := List.take_succ_eq_append_getElem (by omega)
    obtain ⟨e1, e2⟩ := mvM_at (ms := ms) (i := i) (by omega)
    simp only [roF]
    rw [e, e1, e2]
    split
    · rename_i hk
      rw [rgT_snoc, ih, txL_snoc_yes hk]
    · rename_i hk
      rw [ih, txL_snoc_no hk]
theorem roF_mem {ms : List (Int × ByteArray)} {ts : Nat → Int} {k : Int} {z : Int × ByteArray} : ∀ {i : Nat}, i ≤ ms.length → z ∈ roF ms ts k i → ∃ j, ∃ h : j < ms.length, j < i ∧ z = (ts j, (ms[j]).2)
  | 0, _, h => by cases h
  | i + 1, hl, h => by
    simp only [roF] at h
    split at h
    · rcases List.mem_append.1 h with q | q
      · obtain ⟨j, h1, h2, h3⟩ := roF_mem (by omega) q
        exact ⟨j, h1, by omega, h3⟩
      · refine ⟨i, by omega, by omega, ?_⟩
        rw [List.mem_singleton.1 q, (mvM_at (ms := ms) (i := i) (by omega)).2]
    · obtain ⟨j, h1, h2, h3⟩ := roF_mem (by omega) h
      exact ⟨j, h1, by omega, h3⟩
theorem roF_up {ms : List (Int × ByteArray)} {k : Int} : ∀ {i : Nat}, i ≤ ms.length → (roF ms (fun q => (q : Int)) k i).Pairwise (fun x y => x.1 ≤ y.1)
  | 0, _ => List.Pairwise.nil
  | i + 1, h => by
    have ih := roF_up (ms := ms) (k := k) (i := i) (by omega)
    simp only [roF]
    split
    · refine List.pairwise_append.2 ⟨ih, by simp, fun x hx y hy => ?_⟩
      obtain ⟨j, _, h2, h3⟩ := roF_mem (by omega) hx
      rw [List.mem_singleton.1 hy, h3]
      show (j : Int) ≤ (i : Int)
      omega
    · exact ih
/-- notes in order, with good letters, are a register -/
theorem rgV_of {ns : List (Int × ByteArray)} (h1 : ns.length ≤ 30) (h2 : ∀ z, z ∈ ns → (0 ≤ z.1 ∧ z.1 ≤ 2000) ∧ evB z.2 = true) (h3 : ns.Pairwise (fun x y => x.1 ≤ y.1)) : rgV ns = true := by
  refine rgV_true.2 ⟨h1, fun i hi => okN_true.2 ?_⟩
  have hz := h2 _ (List.getElem_mem hi)
  rw [nM_at hi, nL_at hi]
  refine ⟨⟨?_, hz.1.2⟩, hz.2⟩
  unfold prM
  split
  · exact hz.1.1
  · rw [nM_at (show i - 1 < ns.length by omega)]
    exact (List.pairwise_iff_getElem.1 h3) (i - 1) i (by omega) hi (by omega)
theorem fnL_one {x : Ln} {z : Int × ByteArray} (h : z ∈ fnL x) : z.2.size = 1 := by
  have key : ∀ f x, ∀ z, z ∈ finL f x → z.2.size = 1 := by
    intro f
    induction f with
    | zero => intro x z h; simp [finL] at h
    | succ f ih =>
      intro x z h
      unfold finL at h
      split at h
      · split at h
        · rename_i y hy
          rcases List.mem_cons.1 h with h | h
          · subst h
            obtain ⟨_, c, _, _, e, _⟩ := mv_is (near_less hy).1
            rw [e]
            rfl
          · exact ih _ z h
        · simp at h
      · simp at h
  unfold fnL at h
  split at h
  · exact key _ _ z h
  · simp at h
theorem cyc_run : ∀ m : Nat, rnS 0 (Lib.repeatL [111, 97, 101, 108, 102] m) = 0 ∧ (Lib.repeatL [111, 97, 101, 108, 102] m).length = 5 * m ∧ (∀ u, u ∈ Lib.repeatL [111, 97, 101, 108, 102] m → u ∈ evL) ∧ List.count 108 (Lib.repeatL [111, 97, 101, 108, 102] m) = m
  | 0 => ⟨rfl, rfl, (fun u h => by cases h), rfl⟩
  | m + 1 => by
    obtain ⟨h1, h2, h3, h4⟩ := cyc_run m
    have e : Lib.repeatL [111, 97, 101, 108, 102] (m + 1) = [111, 97, 101, 108, 102] ++ Lib.repeatL [111, 97, 101, 108, 102] m := rfl
    rw [e]
    refine ⟨?_, ?_, ?_, ?_⟩
    · rw [rnS_app]
      exact h1
    · rw [List.length_append, h2]
      show 5 + 5 * m = _
      omega
    · intro u hu
      rcases List.mem_append.1 hu with q | q
      · have key : ∀ u ∈ ([111, 97, 101, 108, 102] : List UInt8), u ∈ evL := by decide
        exact key u q
      · exact h3 u q
    · rw [List.count_append, h4]
      show 1 + m = _
      omega
theorem rgT_szs : ∀ {ns : List (Int × ByteArray)}, (∀ z, z ∈ ns → z.2.size = 1) → (rgT ns).length = ns.length
  | [], _ => rfl
  | z :: zs, h => by
    have ih := rgT_szs (ns := zs) (fun y hy => h y (List.mem_cons_of_mem _ hy))
    have e : rgT (z :: zs) = z.2.data.toList ++ rgT zs := rfl
    have e2 : z.2.data.toList.length = 1 := by have := h z (List.mem_cons_self ..); simpa using this
    rw [e, List.length_append, ih, e2]
    simp
    omega
theorem line_reg {n m : Nat} (h1 : 1 ≤ n) (h2 : n ≤ 5) (h3 : m ≤ 5) {k : Nat} (hk : k < n) :
    sdV (roF (fnL (newL n m)) (fun q => (q : Int)) k (fnL (newL n m)).length) = true ∧ (trL (roF (fnL (newL n m)) (fun q => (q : Int)) k (fnL (newL n m)).length)).length = m := by
  have ht := new_text h1 h2 h3 hk
  obtain ⟨c1, c2, c3, c4⟩ := cyc_run m
  have hle := fnL_le (newL n m)
  have hsz := fun z (hz : z ∈ fnL (newL n m)) => fnL_one hz
  generalize fnL (newL n m) = ms at *
  have e : rgT (roF ms (fun q => (q : Int)) k ms.length) = Lib.repeatL [111, 97, 101, 108, 102] m := by
    rw [roF_text (Nat.le_refl _), List.take_length, ht]
  have hone : ∀ z, z ∈ roF ms (fun q => (q : Int)) k ms.length → z.2.size = 1 := fun z hz => by
    obtain ⟨j, hj, _, rfl⟩ := roF_mem (Nat.le_refl _) hz
    exact hsz (ms[j]) (List.getElem_mem hj)
  have hlen := rgT_szs hone
  rw [e, c2] at hlen
  have hv : rgV (roF ms (fun q => (q : Int)) k ms.length) = true := by
    refine rgV_of (by omega) (fun z hz => ?_) (roF_up (Nat.le_refl _))
    have ho := hone z hz
    obtain ⟨c, hc⟩ := chN_of ho
    have hm : c ∈ rgT (roF ms (fun q => (q : Int)) k ms.length) := by
      unfold rgT
      refine List.mem_flatMap.2 ⟨z, hz, ?_⟩
      rw [hc]
      simp [chN]
    rw [e] at hm
    have he : evB z.2 = true := by rw [hc]; exact evB_of (c3 c hm)
    obtain ⟨j, hj, hjl, rfl⟩ := roF_mem (Nat.le_refl _) hz
    refine ⟨?_, he⟩
    show (0 : Int) ≤ (j : Int) ∧ (j : Int) ≤ 2000
    omega
  have hs : sdV (roF ms (fun q => (q : Int)) k ms.length) = true := by
    unfold sdV
    rw [hv, Bool.true_and]
    refine lgB_true.2 ⟨?_, ?_⟩
    · show (rgT (roF ms (fun q => (q : Int)) k ms.length)).toArray.size ≤ 30
      rw [List.size_toArray, e, c2]
      omega
    · show rnS 0 (rgT (roF ms (fun q => (q : Int)) k ms.length)).toArray.toList < 5
      rw [List.toList_toArray, e, c1]
      omega
  refine ⟨hs, ?_⟩
  rw [trL_cnt hs]
  show List.count 108 (rgT (roF ms (fun q => (q : Int)) k ms.length)).toArray.toList = m
  rw [List.toList_toArray, e]
  exact c4
end Go.Proofs.Ytokddeoliieofaa
