/-
  Plain laws: moves of two sections do not depend on their order.
-/
import Derived.Test.YtbachpfgakjncaaVz
namespace Go.Proofs.Ytbachpfgakjncaa
open Go.RowKit

theorem tr_down {x : Ln} (h : ∀ i, i < x.m → trOk x i = true) : ∀ (j i : Nat), i ≤ j → j < x.m → x.T j ≤ x.T i
  | 0, i, hi, _ => by
    obtain rfl : i = 0 := by omega
    exact Int.le_refl _
  | j + 1, i, hi, hj => by
    rcases Nat.lt_or_ge i (j + 1) with h1 | h1
    · have ih := tr_down h j i (by omega) (by omega)
      have h2 := (trOk_true.1 (h (j + 1) hj)).2
      rcases h2 with h2 | h2
      · omega
      · rw [show j + 1 - 1 = j by omega] at h2
        omega
    · obtain rfl : i = j + 1 := by omega
      exact Int.le_refl _
theorem upd_same {α : Type} (f : Nat → α) (i : Nat) (v : α) : upd f i v i = v := if_pos rfl
theorem upd_other {α : Type} (f : Nat → α) {i j : Nat} (v : α) (h : j ≠ i) : upd f i v j = f j := if_neg h
theorem upd_comm {α : Type} (f : Nat → α) {i j : Nat} (a b : α) (h : i ≠ j) : upd (upd f i a) j b = upd (upd f j b) i a := by
  funext q
  unfold upd
  by_cases h1 : q = j
  · subst h1
    rw [if_pos rfl, if_neg (fun e => h e.symm), if_pos rfl]
  · rw [if_neg h1]
    by_cases h2 : q = i
    · rw [if_pos h2, if_pos h2]
    · rw [if_neg h2, if_neg h2, if_neg h1]
theorem plI_two {s : Int} {l : ByteArray} (h : (eB l || lB l) = true) : plI s l = 2 * s ∨ plI s l = 2 * s + 1 := by
  unfold plI
  by_cases h1 : eB l = true
  · rw [if_pos h1]; exact .inl rfl
  · rw [if_neg h1]
    rw [Bool.or_eq_true] at h
    rw [if_pos (h.resolve_left h1)]
    exact .inr rfl
theorem fst_upd {x : Ln} (h : ∀ i, i < x.m → trOk x i = true) {p p' : Int} (hp : fstA x.T p x.m < x.m) (hp' : fstA x.T p' x.m < x.m) (hne : p ≠ p') : fstA (upd x.T (fstA x.T p x.m) (p + 1)) p' x.m = fstA x.T p' x.m := by
  have h1 := fstA_at _ _ _ hp
  have h2 := fstA_at _ _ _ hp'
  have h3 := fstA_before x.T p' x.m
  have hij : fstA x.T p' x.m ≠ fstA x.T p x.m := fun e => by rw [e, h1] at h2; exact hne h2
  refine fstA_stop _ _ (fun q hq => ?_) ?_ x.m hp'
  · by_cases e : q = fstA x.T p x.m
    · rw [e, upd_same]
      intro he
      have h4 := tr_down h (fstA x.T p' x.m) (fstA x.T p x.m) (by omega) hp'
      omega
    · rw [upd_other _ _ e]
      exact h3 q hq
  · rw [upd_other _ _ hij]
    exact h2
theorem mvOk_parts {x : Ln} {s : Int} {l : ByteArray} : mvOk x s l = true ↔ (0 ≤ s ∧ s ≤ (x.n : Int) - 1) ∧ mvJ x s l < 5 ∧ ((eB l || lB l) = true → fstA x.T (plI s l) x.m < x.m) := by
  unfold mvOk
  rw [Bool.and_eq_true, Bool.and_eq_true, inB_true, decide_eq_true_eq, Bool.or_eq_true, decide_eq_true_eq]
  cases (eB l || lB l) <;> simp
theorem mv_after {x : Ln} {s s' : Int} {l l' : ByteArray} (hv : vldL x = true) (h1 : mvOk x s l = true) (h2 : mvOk x s' l' = true) (hs : s ≠ s') :
    mvOk (mvTo x s l) s' l' = true ∧ mvJ (mvTo x s l) s' l' = mvJ x s' l' ∧ ((eB l' || lB l') = true → fstA (mvTo x s l).T (plI s' l') x.m = fstA x.T (plI s' l') x.m) := by
  obtain ⟨a1, a2, a3⟩ := mvOk_parts.1 h1
  obtain ⟨b1, b2, b3⟩ := mvOk_parts.1 h2
  have ht := (vldL_true hv).2.2.2.2.1
  have hne : s'.toNat ≠ s.toNat := by omega
  have hJ : mvJ (mvTo x s l) s' l' = mvJ x s' l' := by
    unfold mvJ mvTo
    show bsI (upd _ _ _ _) (upd _ _ _ _) (upd _ _ _ _) l' = _
    rw [upd_other _ _ hne, upd_other _ _ hne, upd_other _ _ hne]
  have hF : (eB l' || lB l') = true → fstA (mvTo x s l).T (plI s' l') x.m = fstA x.T (plI s' l') x.m := fun he' => by
    unfold mvTo
    by_cases he : (eB l || lB l) = true
    · simp only [he, if_true]
      refine fst_upd ht (a3 he) (b3 he') (fun e => ?_)
      rcases plI_two (s := s) he with q | q <;> rcases plI_two (s := s') he' with q' | q' <;> omega
    · simp only [he]
      simp
  refine ⟨mvOk_parts.2 ⟨b1, by rw [hJ]; exact b2, fun he => ?_⟩, hJ, hF⟩
  show fstA (mvTo x s l).T (plI s' l') x.m < x.m
  rw [hF he]
  exact b3 he
theorem mv_comm {x : Ln} {s s' : Int} {l l' : ByteArray} (hv : vldL x = true) (h1 : mvOk x s l = true) (h2 : mvOk x s' l' = true) (hs : s ≠ s') :
    mvTo (mvTo x s l) s' l' = mvTo (mvTo x s' l') s l := by
  obtain ⟨a1, a2, a3⟩ := mvOk_parts.1 h1
  obtain ⟨b1, b2, b3⟩ := mvOk_parts.1 h2
  obtain ⟨_, hJ, hF⟩ := mv_after hv h1 h2 hs
  obtain ⟨_, hJ', hF'⟩ := mv_after hv h2 h1 (fun e => hs e.symm)
  have hne : s.toNat ≠ s'.toNat := by omega
  have key : ∀ (y : Ln) (t : Int) (m : ByteArray), mvTo y t m = { n := y.n, N := upd y.N t.toNat (stB (mvJ y t m)).n, I := upd y.I t.toNat (stB (mvJ y t m)).i, O := upd y.O t.toNat (stB (mvJ y t m)).o, m := y.m, T := if (eB m || lB m) = true then upd y.T (fstA y.T (plI t m) y.m) (plI t m + 1) else y.T } := fun _ _ _ => rfl
  rw [key (mvTo x s l) s' l', key (mvTo x s' l') s l, hJ, hJ']
  have e1 : (mvTo x s l).n = x.n := rfl
  have e2 : (mvTo x s' l').n = x.n := rfl
  have e3 : (mvTo x s l).m = x.m := rfl
  have e4 : (mvTo x s' l').m = x.m := rfl
  have eN : upd (mvTo x s l).N s'.toNat (stB (mvJ x s' l')).n = upd (mvTo x s' l').N s.toNat (stB (mvJ x s l)).n := upd_comm _ _ _ hne
  have eI : upd (mvTo x s l).I s'.toNat (stB (mvJ x s' l')).i = upd (mvTo x s' l').I s.toNat (stB (mvJ x s l)).i := upd_comm _ _ _ hne
  have eO : upd (mvTo x s l).O s'.toNat (stB (mvJ x s' l')).o = upd (mvTo x s' l').O s.toNat (stB (mvJ x s l)).o := upd_comm _ _ _ hne
  have eT : (if (eB l' || lB l') = true then upd (mvTo x s l).T (fstA (mvTo x s l).T (plI s' l') (mvTo x s l).m) (plI s' l' + 1) else (mvTo x s l).T) = (if (eB l || lB l) = true then upd (mvTo x s' l').T (fstA (mvTo x s' l').T (plI s l) (mvTo x s' l').m) (plI s l + 1) else (mvTo x s' l').T) := by
    rw [e3, e4]
    have t1 : (mvTo x s l).T = if (eB l || lB l) = true then upd x.T (fstA x.T (plI s l) x.m) (plI s l + 1) else x.T := rfl
    have t2 : (mvTo x s' l').T = if (eB l' || lB l') = true then upd x.T (fstA x.T (plI s' l') x.m) (plI s' l' + 1) else x.T := rfl
    by_cases he : (eB l || lB l) = true
    · by_cases he' : (eB l' || lB l') = true
      · rw [if_pos he, if_pos he', hF he', hF' he, t1, t2, if_pos he, if_pos he']
        refine upd_comm _ _ _ (fun e => ?_)
        have q1 := fstA_at _ _ _ (a3 he)
        have q2 := fstA_at _ _ _ (b3 he')
        rw [e, q2] at q1
        rcases plI_two (s := s) he with q | q <;> rcases plI_two (s := s') he' with q' | q' <;> omega
      · rw [if_pos he, if_neg he', t1, if_pos he]
        rw [hF' he, t2, if_neg he']
    · by_cases he' : (eB l' || lB l') = true
      · rw [if_neg he, if_pos he', hF he', t1, if_neg he, t2, if_pos he']
      · rw [if_neg he, if_neg he', t1, if_neg he, t2, if_neg he']
  rw [e1, e2, e3, e4] at *
  rw [eN, eI, eO, eT]
theorem run_two {x : Ln} {s s' : Int} {l l' : ByteArray} (hv : vldL x = true) (h1 : mvOk x s l = true) (h2 : mvOk x s' l' = true) (hs : s ≠ s') :
    runL x [(s, l), (s', l')] = some (mvTo (mvTo x s l) s' l') ∧ runL x [(s', l'), (s, l)] = some (mvTo (mvTo x s l) s' l') := by
  have a := (mv_after hv h1 h2 hs).1
  have b := (mv_after hv h2 h1 (fun e => hs e.symm)).1
  constructor
  · show (stepO x s l).bind (fun y => (stepO y s' l').bind fun y => some y) = _
    rw [stepO_yes h1]
    show (stepO (mvTo x s l) s' l').bind (fun y => some y) = _
    rw [stepO_yes a]
    rfl
  · show (stepO x s' l').bind (fun y => (stepO y s l).bind fun y => some y) = _
    rw [stepO_yes h2]
    show (stepO (mvTo x s' l') s l).bind (fun y => some y) = _
    rw [stepO_yes b, mv_comm hv h1 h2 hs]
    rfl
end Go.Proofs.Ytbachpfgakjncaa
