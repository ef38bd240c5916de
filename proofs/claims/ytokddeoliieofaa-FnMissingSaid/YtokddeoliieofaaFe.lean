/-
  RegisterFix as data: the register with the note is sound.
-/
import Derived.Test.YtokddeoliieofaaFd
import Derived.Test.YtokddeoliieofaaKz
namespace Go.Proofs.Ytokddeoliieofaa
open Go.RowKit

theorem evB_mem {l : ByteArray} (h : evB l = true) : ∃ c, l = chN c ∧ c ∈ evL := by
  obtain ⟨c, rfl⟩ := chN_of (evB_size h)
  refine ⟨c, rfl, ?_⟩
  have h2 : evL.contains c = true := h
  rwa [List.contains_iff_mem] at h2
theorem rgV_ev {ns : List (Int × ByteArray)} (h : rgV ns = true) {z : Int × ByteArray} (hz : z ∈ ns) : evB z.2 = true := by
  obtain ⟨i, hi, e⟩ := List.mem_iff_getElem.1 hz
  have h2 := (okN_true.1 ((rgV_true.1 h).2 i hi)).2
  rw [nL_at hi, e] at h2
  exact h2
theorem rgT_mem {ns : List (Int × ByteArray)} (h : rgV ns = true) {u : UInt8} (hu : u ∈ rgT ns) : u ∈ evL := by
  unfold rgT at hu
  obtain ⟨z, hz, hu⟩ := List.mem_flatMap.1 hu
  obtain ⟨c, hc, hm⟩ := evB_mem (rgV_ev h hz)
  rw [hc] at hu
  have : u = c := by simpa [chN] using hu
  rw [this]
  exact hm
theorem rgT_one : ∀ {ns : List (Int × ByteArray)}, (∀ z, z ∈ ns → z.2.size = 1) → ∀ k, rgT (ns.take k) = (rgT ns).take k ∧ rgT (ns.drop k) = (rgT ns).drop k
  | [], _, k => by simp [rgT]
  | z :: zs, _, 0 => by simp [rgT]
  | z :: zs, h, k + 1 => by
    have ih := rgT_one (ns := zs) (fun y hy => h y (List.mem_cons_of_mem _ hy)) k
    obtain ⟨c, hc⟩ := chN_of (h z (List.mem_cons_self ..))
    have e : ∀ ys : List (Int × ByteArray), rgT (z :: ys) = c :: rgT ys := fun ys => by
      unfold rgT
      rw [List.flatMap_cons, hc]
      rfl
    rw [List.take_succ_cons, List.drop_succ_cons, e, e, List.take_succ_cons, List.drop_succ_cons, ih.1, ih.2]
    exact ⟨rfl, rfl⟩
theorem txN_list (ns : List (Int × ByteArray)) : (txN ns).data.toList = rgT ns := by
  show (rgT ns).toArray.toList = _
  simp
theorem prM_bd {ns : List (Int × ByteArray)} (h : rgV ns = true) {k : Nat} (hk : k ≤ ns.length) : 0 ≤ prM ns k ∧ prM ns k ≤ 2000 := by
  unfold prM
  split
  · omega
  · exact nM_bd h (k - 1) (by omega)
theorem nM_mid {xs ys : List (Int × ByteArray)} {z : Int × ByteArray} (i : Nat) :
    (i < xs.length → nM (xs ++ z :: ys) i = nM xs i ∧ nL (xs ++ z :: ys) i = nL xs i) ∧ (i = xs.length → nM (xs ++ z :: ys) i = z.1 ∧ nL (xs ++ z :: ys) i = z.2) ∧
    (xs.length < i → nM (xs ++ z :: ys) i = nM ys (i - xs.length - 1) ∧ nL (xs ++ z :: ys) i = nL ys (i - xs.length - 1)) := by
  refine ⟨fun h => ?_, fun h => ?_, fun h => ?_⟩
  · unfold nM nL
    rw [List.getElem?_append_left h]
    exact ⟨rfl, rfl⟩
  · subst h
    unfold nM nL
    rw [List.getElem?_append_right (Nat.le_refl _)]
    simp
  · unfold nM nL
    rw [List.getElem?_append_right (by omega)]
    obtain ⟨j, hj⟩ : ∃ j, i - xs.length = j + 1 := ⟨i - xs.length - 1, by omega⟩
    rw [hj, List.getElem?_cons_succ]
    simp
theorem nM_drop {ns : List (Int × ByteArray)} {k j : Nat} : nM (ns.drop k) j = nM ns (k + j) ∧ nL (ns.drop k) j = nL ns (k + j) := by
  unfold nM nL
  rw [List.getElem?_drop]
  exact ⟨rfl, rfl⟩
/-- a note put in at a place keeps a register valid -/
theorem rgV_put {ns : List (Int × ByteArray)} (h : rgV ns = true) (h30 : ns.length < 30) {k : Nat} (hk : k ≤ ns.length) {l : ByteArray} (hl : evB l = true) : rgV (ns.take k ++ (prM ns k, l) :: ns.drop k) = true := by
  have hkl : (ns.take k).length = k := by simp; omega
  have hok := fun i hi => okN_true.1 ((rgV_true.1 h).2 i hi)
  have m1 : ∀ i, i < k → nM (ns.take k ++ (prM ns k, l) :: ns.drop k) i = nM ns i ∧ nL (ns.take k ++ (prM ns k, l) :: ns.drop k) i = nL ns i := fun i hi => by
    have q := (nM_mid (xs := ns.take k) (ys := ns.drop k) (z := (prM ns k, l)) i).1 (by omega)
    rw [q.1, q.2]
    exact nM_take hi
  have m2 : nM (ns.take k ++ (prM ns k, l) :: ns.drop k) k = prM ns k ∧ nL (ns.take k ++ (prM ns k, l) :: ns.drop k) k = l :=
    (nM_mid (xs := ns.take k) (ys := ns.drop k) (z := (prM ns k, l)) k).2.1 hkl.symm
  have m3 : ∀ i, k < i → nM (ns.take k ++ (prM ns k, l) :: ns.drop k) i = nM ns (i - 1) ∧ nL (ns.take k ++ (prM ns k, l) :: ns.drop k) i = nL ns (i - 1) := fun i hi => by
    have q := (nM_mid (xs := ns.take k) (ys := ns.drop k) (z := (prM ns k, l)) i).2.2 (by omega)
    rw [q.1, q.2, hkl]
    have q2 := nM_drop (ns := ns) (k := k) (j := i - k - 1)
    rw [show k + (i - k - 1) = i - 1 by omega] at q2
    exact q2
  have hp := prM_bd h hk
  refine rgV_true.2 ⟨by simp; omega, fun i hi => okN_true.2 ?_⟩
  have hi2 : i < ns.length + 1 := by simp at hi; omega
  generalize ns.take k ++ (prM ns k, l) :: ns.drop k = y at *
  rcases Nat.lt_trichotomy i k with h1 | h1 | h1
  · have e : prM y i = prM ns i := by
      unfold prM
      split
      · rfl
      · exact (m1 (i - 1) (by omega)).1
    rw [e, (m1 i h1).1, (m1 i h1).2]
    exact hok i (by omega)
  · subst h1
    have e : prM y i = prM ns i := by
      unfold prM
      split
      · rfl
      · exact (m1 (i - 1) (by omega)).1
    rw [e, m2.1, m2.2]
    exact ⟨⟨by omega, hp.2⟩, hl⟩
  · have q := hok (i - 1) (by omega)
    rw [(m3 i h1).1, (m3 i h1).2]
    refine ⟨⟨?_, q.1.2⟩, q.2⟩
    have e : prM y i = prM ns (i - 1) := by
      by_cases h2 : i - 1 = k
      · unfold prM
        rw [if_neg (by omega), h2, m2.1]
        rfl
      · have e1 : prM y i = nM y (i - 1) := if_neg (by omega)
        have e2 : prM ns (i - 1) = nM ns (i - 1 - 1) := if_neg (by omega)
        rw [e1, e2, (m3 (i - 1) (by omega)).1]
    rw [e]
    exact q.1.1
theorem fix_ok {ns : List (Int × ByteArray)} {x : ByteArray} (h : rgV ns = true) (hx : x ∈ repL (txN ns)) : rgV (fxY ns x) = true ∧ txN (fxY ns x) = x ∧ sdV (fxY ns x) = true ∧ fxK (txN ns) x ≤ ns.length ∧ x.size = ns.length + 1 ∧ ns.length < 30 := by
  have hts : (txN ns).size = ns.length := by
    show (rgT ns).toArray.size = _
    rw [List.size_toArray, rgT_size h]
  obtain ⟨h30, p, i, hp, hi, he, hlg⟩ := repL_mem hx
  have hxs := repL_size hx
  have hk := fxK_le (txN ns) x
  rw [hts] at h30 hp hxs hk
  have hX : x.data.toList = (rgT ns).take p ++ evL.getD i 0 :: (rgT ns).drop p := by rw [he, insT_list hi, txN_list]
  obtain ⟨d, hd⟩ := lcp_ins (rgT ns) p (evL.getD i 0) (by rw [rgT_size h]; exact hp)
  have hkd : fxK (txN ns) x = lcp (rgT ns) ((rgT ns).take p ++ evL.getD i 0 :: (rgT ns).drop p) := by
    unfold fxK
    rw [txN_list, hX]
  rw [← hkd] at hd
  have hde : d ∈ evL := by
    have : d ∈ (rgT ns).take p ++ evL.getD i 0 :: (rgT ns).drop p := by rw [hd]; simp
    rcases List.mem_append.1 this with q | q
    · exact rgT_mem h (List.mem_of_mem_take q)
    · rcases List.mem_cons.1 q with q | q
      · rw [q]; exact ev_mem hi
      · exact rgT_mem h (List.mem_of_mem_drop q)
  rw [hd] at hX
  unfold fxY fxZ
  clear he hkd hd
  generalize fxK (txN ns) x = k at *
  have hkl : ((rgT ns).take k).length = k := by rw [List.length_take, rgT_size h]; omega
  have hxd : x.extract k (k + 1) = chN d := by
    apply ByteArray.ext
    apply Array.ext'
    rw [ex_list, hX, List.drop_append_of_le_length (by omega), List.drop_eq_nil_of_le (by omega)]
    rw [show k + 1 - k = 1 by omega]
    rfl
  rw [hxd]
  have hv := rgV_put h h30 hk (l := chN d) (evB_of hde)
  have ht : txN (ns.take k ++ (prM ns k, chN d) :: ns.drop k) = x := by
    apply ByteArray.ext
    apply Array.ext'
    rw [txN_list, hX, rgT_app]
    have h1 := rgT_one (rgV_sz h) k
    rw [h1.1, ← h1.2]
    rfl
  refine ⟨hv, ht, ?_, hk, hxs, h30⟩
  unfold sdV
  rw [hv, ht, hlg]
  rfl
end Go.Proofs.Ytokddeoliieofaa
