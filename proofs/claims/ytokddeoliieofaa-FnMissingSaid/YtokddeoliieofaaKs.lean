/-
  countOf of the laws; what the minutes of the trains are, in plain Lean.
-/
import Derived.Test.YtokddeoliieofaaKr
namespace Go.Proofs.Ytokddeoliieofaa
open Go.RowKit

theorem cnt_take {t : ByteArray} {k : Nat} (hk : k < t.size) : (t.data.toList.take (k + 1)).count 108 = (t.data.toList.take k).count 108 + if bt t k = 108 then 1 else 0 := by
  have hk' : k < t.data.toList.length := by simpa using hk
  rw [List.take_succ_eq_append_getElem hk', List.count_append]
  have e : bt t k = ((t.data.toList[k]).toNat : Int) := by rw [← bt_at hk]; rfl
  rw [e]
  congr 1
  by_cases h : t.data.toList[k] = 108
  · rw [h]; rfl
  · rw [if_neg (fun q => h (UInt8.toNat_inj.1 (by show _ = 108; omega))), List.count_cons_of_ne h]
    rfl
theorem countOf_any (t : ByteArray) (w : World) (ht : t.size ≤ 1000000) :
    Calls Try.prog 44 #[.string t, .int .u8 108] w fun e w' => e = .returned (.int .i64 (Lib.countByte t.data.toList 108)) ∧ w = w' := by
  have HT : Hid (Lib.countByte t.data.toList 108 = (t.data.toList.take t.size).count 108) := by
    show _ = _
    rw [List.take_of_length_le (by simp)]
    rfl
  have HC : Hid (∀ k, (t.data.toList.take k).count 108 ≤ 1000000) := fun k => by
    have h1 := List.count_le_length (a := (108 : UInt8)) (l := t.data.toList.take k)
    simp at h1
    omega
  go_enter Try.func44, Try.ntmps44
  go_wp2_with fail
  go_loop [5, 6] (fun n i => ∃ k : Nat, k ≤ t.size ∧ i = .int .i64 k ∧ ∃ q : Nat, n = .int .i64 q ∧ Hid ((t.data.toList.take k).count 108 = q)) (fun _ i => t.size - (intOf i).toNat)
  case atStart => exact ⟨0, Nat.zero_le _, rfl, 0, rfl, rfl⟩
  case round =>
    obtain ⟨k, hk, rfl, q, rfl, HQ⟩ := hrel
    have hq : q ≤ 1000000 := by rw [← HQ.out]; exact HC.out k
    by_cases hlt : k < t.size
    · have hlt' : (k : Int) < (t.size : Int) := by omega
      have hbt := bt_at hlt
      have HNX := Lib.hid (cnt_take hlt)
      rw [HQ.out] at HNX
      generalize bt t k = x at *
      by_cases hx : x = 108
      · have HN : Hid ((t.data.toList.take (k + 1)).count 108 = q + 1) := by show _ = _; rw [HNX.out, if_pos hx]
        subst hx
        go_wp2_with fail
        go_round
        case rel => exact ⟨k + 1, by omega, by go_num, q + 1, by go_num, HN⟩
        case measure => simp [intOf]; omega
      · have HN : Hid ((t.data.toList.take (k + 1)).count 108 = q) := by show _ = _; rw [HNX.out, if_neg hx]; rfl
        go_wp2_with fail
        go_round
        case rel => exact ⟨k + 1, by omega, by go_num, q, rfl, HN⟩
        case measure => simp [intOf]; omega
    · obtain rfl : k = t.size := by omega
      go_wp2_with fail
      go_ret
      exact ⟨by rw [HT.out, HQ.out]; rfl, rfl⟩
/-- the sum of a list -/
def suT (l : List Int) : Int := sumTo (iF l) l.length
theorem sumTo_same {f g : Nat → Int} : ∀ k, (∀ j, j < k → f j = g j) → sumTo f k = sumTo g k
  | 0, _ => rfl
  | k + 1, h => by
    simp only [sumTo]
    rw [sumTo_same k (fun j hj => h j (by omega)), h k (by omega)]
theorem suT_snoc (l : List Int) (z : Int) : suT (l ++ [z]) = suT l + z := by
  unfold suT
  rw [List.length_append]
  show sumTo _ l.length + iF _ l.length = _
  rw [iF_new, sumTo_same l.length (fun j hj => iF_old hj)]
theorem nx_out {s : Nat} (h : nx s 108 < 5) : s = 3 := by
  match s with
  | 0 => simp [nx] at h
  | 1 => simp [nx] at h
  | 2 => simp [nx] at h
  | 3 => rfl
  | 4 => simp [nx] at h
  | _ + 5 => simp [nx] at h
theorem nx_in {s : Nat} {c : Int} (h : nx s c = 3) : c = 101 := by
  match s with
  | 0 => simp only [nx] at h; split at h <;> omega
  | 1 => simp only [nx] at h; split at h <;> (try split at h) <;> omega
  | 2 => simp only [nx] at h; split at h <;> (try split at h) <;> omega
  | 3 => simp only [nx] at h; split at h <;> omega
  | 4 => simp only [nx] at h; split at h <;> omega
  | _ + 5 => simp [nx] at h
/-- the state before a note -/
def stN (ns : List (Int × ByteArray)) (k : Nat) : Nat := rnS 0 (rgT (ns.take k))
theorem stN_step {ns : List (Int × ByteArray)} (h : sdV ns = true) {k : Nat} (hk : k < ns.length) : ∃ c : UInt8, nL ns k = chN c ∧ stN ns (k + 1) = nx (stN ns k) (c.toNat : Int) ∧ stN ns (k + 1) < 5 := by
  have e1 : ns.take (k + 1) = ns.take k ++ [ns[k]] := List.take_succ_eq_append_getElem hk
  obtain ⟨c, hc⟩ := chN_of (rgV_sz (sdV_rg h) _ (List.getElem_mem hk))
  refine ⟨c, by rw [nL_at hk, hc], ?_, ?_⟩
  · unfold stN
    rw [e1, rgT_snoc, rnS_app, hc]
    rfl
  · have h2 := sdV_take h (k + 1)
    unfold sdV at h2
    rw [Bool.and_eq_true] at h2
    have h3 := (lgB_true.1 h2.2).2
    unfold txN at h3
    rwa [List.toList_toArray] at h3
theorem ch_ne {a b : UInt8} (h : a ≠ b) : chN a ≠ chN b := fun e => h (by simpa [chN] using e)
theorem nM_up {ns : List (Int × ByteArray)} (h : rgV ns = true) {k : Nat} (hk : k < ns.length) (h0 : 0 < k) : nM ns (k - 1) ≤ nM ns k := by
  have h2 := (okN_true.1 ((rgV_true.1 h).2 k hk)).1.1
  obtain ⟨j, rfl⟩ : ∃ j, k = j + 1 := ⟨k - 1, by omega⟩
  rw [prM_succ] at h2
  exact h2
structure TrV (ns : List (Int × ByteArray)) (k : Nat) : Prop where
  bd : ∀ z, z ∈ trI ns k → 0 ≤ z ∧ z ≤ 2000
  z : k = 0 → trI ns k = []
  s : 0 < k → suT (trI ns k) ≤ nM ns (k - 1) - nM ns 0
  i : stN ns k = 3 → 0 < k ∧ suT (trI ns k) ≤ trE ns k - nM ns 0 ∧ trE ns k ≤ nM ns (k - 1)
theorem tr_v {ns : List (Int × ByteArray)} (h : sdV ns = true) : ∀ k, k ≤ ns.length → TrV ns k
  | 0, _ => ⟨fun z hz => by simp [trI] at hz, fun _ => rfl, fun h => by omega, fun e => by simp [stN, rgT, rnS] at e⟩
  | k + 1, hk => by
    have ih := tr_v h k (by omega)
    have hlt : k < ns.length := hk
    obtain ⟨c, hc, hs, h5⟩ := stN_step h hlt
    have hb := nM_bd (sdV_rg h) k hlt
    have he := trE_bd (sdV_rg h) k (by omega)
    have hup : suT (trI ns k) ≤ nM ns k - nM ns 0 := by
      rcases Nat.eq_zero_or_pos k with q | q
      · rw [ih.z q, q]; simp [suT, sumTo]
      · have h1 := ih.s q
        have h2 := nM_up (sdV_rg h) hlt q
        omega
    have e1 : trE ns (k + 1) = if nL ns k = chN 101 then nM ns k else trE ns k := rfl
    have e2 : trI ns (k + 1) = if nL ns k = chN 108 then trI ns k ++ [nM ns k - trE ns k] else trI ns k := rfl
    rw [hc] at e1 e2
    by_cases h8 : c = 108
    · subst h8
      have hs3 : stN ns k = 3 := nx_out (by rw [hs] at h5; exact h5)
      obtain ⟨k0, i1, i2⟩ := ih.i hs3
      have h2 := nM_up (sdV_rg h) hlt k0
      rw [if_pos rfl] at e2
      refine ⟨fun z hz => ?_, fun q => by omega, fun _ => ?_, fun q => ?_⟩
      · rw [e2] at hz
        rcases List.mem_append.1 hz with q | q
        · exact ih.bd z q
        · rw [List.mem_singleton.1 q]; omega
      · rw [e2, suT_snoc]
        show _ ≤ nM ns k - _
        omega
      · have := nx_in (hs.symm.trans q)
        exact absurd this (by decide)
    · rw [if_neg (ch_ne h8)] at e2
      refine ⟨fun z hz => ih.bd z (by rwa [e2] at hz), fun q => by omega, fun _ => by rw [e2]; exact hup, fun q => ?_⟩
      have h101 : c = 101 := UInt8.toNat_inj.1 (by have := nx_in (hs.symm.trans q); show _ = 101; omega)
      subst h101
      rw [if_pos rfl] at e1
      rw [e1, e2]
      exact ⟨by omega, hup, Int.le_refl _⟩
theorem tr_all {ns : List (Int × ByteArray)} (h : sdV ns = true) (h0 : 0 < ns.length) : (∀ i, i < (trL ns).length → 0 ≤ iF (trL ns) i ∧ iF (trL ns) i ≤ 2000) ∧ suT (trL ns) ≤ nM ns (ns.length - 1) - nM ns 0 := by
  have e : trL ns = trI ns ns.length := if_pos h
  have hv := tr_v h ns.length (Nat.le_refl _)
  have hbd := hv.bd
  have hs := hv.s h0
  rw [← e] at hbd hs
  refine ⟨fun i hi => hbd _ ?_, hs⟩
  unfold iF
  rw [List.getElem?_eq_getElem hi]
  exact List.getElem_mem hi
theorem rgT_sh (k : Int) (ns : List (Int × ByteArray)) : rgT (ns.map (shN k)) = rgT ns := by
  unfold rgT
  rw [List.flatMap_map]
  rfl
theorem nM_sh (k : Int) {ns : List (Int × ByteArray)} {i : Nat} (hi : i < ns.length) : nM (ns.map (shN k)) i = nM ns i + k ∧ nL (ns.map (shN k)) i = nL ns i := by
  have hi2 : i < (ns.map (shN k)).length := by simpa using hi
  rw [nM_at hi2, nL_at hi2, nM_at hi, nL_at hi, List.getElem_map]
  exact ⟨rfl, rfl⟩
theorem sdV_sh {k : Int} {ns : List (Int × ByteArray)} (h : sdV ns = true) (hv : rgV (ns.map (shN k)) = true) : sdV (ns.map (shN k)) = true := by
  unfold sdV at h ⊢
  rw [Bool.and_eq_true] at h
  have e : txN (ns.map (shN k)) = txN ns := by unfold txN; rw [rgT_sh]
  rw [hv, e, h.2]
  rfl
theorem tr_sh {k : Int} {ns : List (Int × ByteArray)} (h : sdV ns = true) : ∀ j, j ≤ ns.length → trI (ns.map (shN k)) j = trI ns j ∧ (stN ns j = 3 → trE (ns.map (shN k)) j = trE ns j + k)
  | 0, _ => ⟨rfl, fun e => by simp [stN, rgT, rnS] at e⟩
  | j + 1, hj => by
    obtain ⟨i1, i2⟩ := tr_sh (k := k) h j (by omega)
    have hlt : j < ns.length := hj
    obtain ⟨c, hc, hs, h5⟩ := stN_step h hlt
    obtain ⟨m1, m2⟩ := nM_sh k hlt
    show (if nL (ns.map (shN k)) j = chN 108 then trI (ns.map (shN k)) j ++ [nM (ns.map (shN k)) j - trE (ns.map (shN k)) j] else trI (ns.map (shN k)) j) = (if nL ns j = chN 108 then trI ns j ++ [nM ns j - trE ns j] else trI ns j) ∧ (stN ns (j + 1) = 3 → (if nL (ns.map (shN k)) j = chN 101 then nM (ns.map (shN k)) j else trE (ns.map (shN k)) j) = (if nL ns j = chN 101 then nM ns j else trE ns j) + k)
    rw [m1, m2, i1, hc]
    refine ⟨?_, fun q => ?_⟩
    · by_cases h8 : c = 108
      · subst h8
        have hs3 : stN ns j = 3 := nx_out (by rw [hs] at h5; exact h5)
        rw [if_pos rfl, if_pos rfl, i2 hs3]
        congr 2
        omega
      · rw [if_neg (ch_ne h8), if_neg (ch_ne h8)]
    · have h101 : c = 101 := UInt8.toNat_inj.1 (by have := nx_in (hs.symm.trans q); show _ = 101; omega)
      subst h101
      rw [if_pos rfl, if_pos rfl]
theorem trL_sh {k : Int} {ns : List (Int × ByteArray)} (h : sdV ns = true) (hv : rgV (ns.map (shN k)) = true) : trL (ns.map (shN k)) = trL ns := by
  have e1 : trL (ns.map (shN k)) = trI (ns.map (shN k)) (ns.map (shN k)).length := if_pos (sdV_sh h hv)
  have e2 : trL ns = trI ns ns.length := if_pos h
  rw [e1, e2, List.length_map]
  exact (tr_sh h ns.length (Nat.le_refl _)).1
end Go.Proofs.Ytokddeoliieofaa
