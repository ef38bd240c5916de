/-
  The program's LineWaits; the draw of a line that is sometimes done.
  Plain laws: moves of two sections do not depend on their order.
  WriteString; the program's LineText and BlockCycle.
  Plain law: LineFinish's moves of a section of a new line are the cycle, once for each train.
-/
import Derived.Test.YtokddeoliieofaaVz
import Derived.Test.YtokddeoliieofaaKn
import Derived.Test.YtokddeoliieofaaSh
import Derived.Lib.Repeat
namespace Go.Proofs.Ytokddeoliieofaa
open Go.RowKit

theorem fnL_le (x : Ln) : (fnL x).length ≤ 135 := by
  unfold fnL
  split
  · rename_i h
    have h1 := lefS_135 h
    have h2 := finL_len (lefS x x.n).toNat x
    unfold finX
    omega
  · simp
theorem rnO_fin {x : Ln} (hv : vldL x = true) : ∃ y, rnO x (mvM (fnL x)) (mvS (fnL x)) (fnL x).length = some y ∧ vldL y = true ∧ lefS y y.n = 0 ∧ y.n = x.n ∧ y.m = x.m := by
  obtain ⟨q, hq⟩ := lefS_nn x
  obtain ⟨h1, h2⟩ := fin_run q x hv hq
  obtain ⟨y, g1, g2, g3, _, g5, g6⟩ := h2 q (Nat.le_refl _)
  refine ⟨y, ?_, g2, by rw [g3]; simp, g5, g6⟩
  unfold rnO
  rw [if_pos hv, runO_all, show fnL x = finX x from if_pos hv]
  rw [← h1, List.take_length] at g1
  exact g1
theorem RdL.pickO {w w' : World} {g cap n s R : Nat} {t : TypeId} {f : Nat → Value} (h : Own w g cap n s t f) (hb : w.grownBy w' (some R)) (hg : R < g) : Own w' g cap n s t f := h.kept hb (by simp; omega)
end Go.Proofs.Ytokddeoliieofaa
namespace Go.Proofs.Ytokddeoliieofaa
open Go.RowKit

theorem tr_down {x : Ln} (h : ∀ i, i < x.m → trOk x i = true) : ∀ (j i : Nat), i ≤ j → j < x.m → x.T j ≤ x.T i
  | 0, i, hi, _ => by
    obtain rfl : i = 0 := by omega
    exact Int.le_refl _
  | j + 1, i, hi, hj => by
    rcases Nat.lt_or_ge i (j + 1) with h1 | h1
    · have ih := tr_down h j i (by omega) (by omega)
      have h2 := (trOk_true.1 (h (j + 1) hj)).2
      rcases h2 with h2 | h2
      · omega
      · rw [show j + 1 - 1 = j by omega] at h2
        omega
    · obtain rfl : i = j + 1 := by omega
      exact Int.le_refl _
theorem upd_same {α : Type} (f : Nat → α) (i : Nat) (v : α) : upd f i v i = v := if_pos rfl
theorem upd_other {α : Type} (f : Nat → α) {i j : Nat} (v : α) (h : j ≠ i) : upd f i v j = f j := if_neg h
theorem upd_comm {α : Type} (f : Nat → α) {i j : Nat} (a b : α) (h : i ≠ j) : upd (upd f i a) j b = upd (upd f j b) i a := by
  funext q
  unfold upd
  by_cases h1 : q = j
  · subst h1
    rw [if_pos rfl, if_neg (fun e => h e.symm), if_pos rfl]
  · rw [if_neg h1]
    by_cases h2 : q = i
    · rw [if_pos h2, if_pos h2]
    · rw [if_neg h2, if_neg h2, if_neg h1]
theorem plI_two {s : Int} {l : ByteArray} (h : (eB l || lB l) = true) : plI s l = 2 * s ∨ plI s l = 2 * s + 1 := by
  unfold plI
  by_cases h1 : eB l = true
  · rw [if_pos h1]; exact .inl rfl
  · rw [if_neg h1]
    rw [Bool.or_eq_true] at h
    rw [if_pos (h.resolve_left h1)]
    exact .inr rfl
theorem fst_upd {x : Ln} (h : ∀ i, i < x.m → trOk x i = true) {p p' : Int} (hp : fstA x.T p x.m < x.m) (hp' : fstA x.T p' x.m < x.m) (hne : p ≠ p') : fstA (upd x.T (fstA x.T p x.m) (p + 1)) p' x.m = fstA x.T p' x.m := by
  have h1 := fstA_at _ _ _ hp
  have h2 := fstA_at _ _ _ hp'
  have h3 := fstA_before x.T p' x.m
  have hij : fstA x.T p' x.m ≠ fstA x.T p x.m := fun e => by rw [e, h1] at h2; exact hne h2
  refine fstA_stop _ _ (fun q hq => ?_) ?_ x.m hp'
  · by_cases e : q = fstA x.T p x.m
    · rw [e, upd_same]
      intro he
      have h4 := tr_down h (fstA x.T p' x.m) (fstA x.T p x.m) (by omega) hp'
      omega
    · rw [upd_other _ _ e]
      exact h3 q hq
  · rw [upd_other _ _ hij]
    exact h2
theorem mvOk_parts {x : Ln} {s : Int} {l : ByteArray} : mvOk x s l = true ↔ (0 ≤ s ∧ s ≤ (x.n : Int) - 1) ∧ mvJ x s l < 5 ∧ ((eB l || lB l) = true → fstA x.T (plI s l) x.m < x.m) := by
  unfold mvOk
  rw [Bool.and_eq_true, Bool.and_eq_true, inB_true, decide_eq_true_eq, Bool.or_eq_true, decide_eq_true_eq]
  cases (eB l || lB l) <;> simp
theorem mv_after {x : Ln} {s s' : Int} {l l' : ByteArray} (hv : vldL x = true) (h1 : mvOk x s l = true) (h2 : mvOk x s' l' = true) (hs : s ≠ s') :
    mvOk (mvTo x s l) s' l' = true ∧ mvJ (mvTo x s l) s' l' = mvJ x s' l' ∧ ((eB l' || lB l') = true → fstA (mvTo x s l).T (plI s' l') x.m = fstA x.T (plI s' l') x.m) := by
  obtain ⟨a1, a2, a3⟩ := mvOk_parts.1 h1
  obtain ⟨b1, b2, b3⟩ := mvOk_parts.1 h2
  have ht := (vldL_true hv).2.2.2.2.1
  have hne : s'.toNat ≠ s.toNat := by omega
  have hJ : mvJ (mvTo x s l) s' l' = mvJ x s' l' := by
    unfold mvJ mvTo
    show bsI (upd _ _ _ _) (upd _ _ _ _) (upd _ _ _ _) l' = _
    rw [upd_other _ _ hne, upd_other _ _ hne, upd_other _ _ hne]
  have hF : (eB l' || lB l') = true → fstA (mvTo x s l).T (plI s' l') x.m = fstA x.T (plI s' l') x.m := fun he' => by
    unfold mvTo
    by_cases he : (eB l || lB l) = true
    · simp only [he, if_true]
      refine fst_upd ht (a3 he) (b3 he') (fun e => ?_)
      rcases plI_two (s := s) he with q | q <;> rcases plI_two (s := s') he' with q' | q' <;> omega
    · simp only [he]
      simp
  refine ⟨mvOk_parts.2 ⟨b1, by rw [hJ]; exact b2, fun he => ?_⟩, hJ, hF⟩
  show fstA (mvTo x s l).T (plI s' l') x.m < x.m
  rw [hF he]
  exact b3 he
theorem mv_comm {x : Ln} {s s' : Int} {l l' : ByteArray} (hv : vldL x = true) (h1 : mvOk x s l = true) (h2 : mvOk x s' l' = true) (hs : s ≠ s') :
    mvTo (mvTo x s l) s' l' = mvTo (mvTo x s' l') s l := by
  obtain ⟨a1, a2, a3⟩ := mvOk_parts.1 h1
  obtain ⟨b1, b2, b3⟩ := mvOk_parts.1 h2
  obtain ⟨_, hJ, hF⟩ := mv_after hv h1 h2 hs
  obtain ⟨_, hJ', hF'⟩ := mv_after hv h2 h1 (fun e => hs e.symm)
  have hne : s.toNat ≠ s'.toNat := by omega
  have key : ∀ (y : Ln) (t : Int) (m : ByteArray), mvTo y t m = { n := y.n, N := upd y.N t.toNat (stB (mvJ y t m)).n, I := upd y.I t.toNat (stB (mvJ y t m)).i, O := upd y.O t.toNat (stB (mvJ y t m)).o, m := y.m, T := if (eB m || lB m) = true then upd y.T (fstA y.T (plI t m) y.m) (plI t m + 1) else y.T } := fun _ _ _ => rfl
  rw [key (mvTo x s l) s' l', key (mvTo x s' l') s l, hJ, hJ']
  have e1 : (mvTo x s l).n = x.n := rfl
  have e2 : (mvTo x s' l').n = x.n := rfl
  have e3 : (mvTo x s l).m = x.m := rfl
  have e4 : (mvTo x s' l').m = x.m := rfl
  have eN : upd (mvTo x s l).N s'.toNat (stB (mvJ x s' l')).n = upd (mvTo x s' l').N s.toNat (stB (mvJ x s l)).n := upd_comm _ _ _ hne
  have eI : upd (mvTo x s l).I s'.toNat (stB (mvJ x s' l')).i = upd (mvTo x s' l').I s.toNat (stB (mvJ x s l)).i := upd_comm _ _ _ hne
  have eO : upd (mvTo x s l).O s'.toNat (stB (mvJ x s' l')).o = upd (mvTo x s' l').O s.toNat (stB (mvJ x s l)).o := upd_comm _ _ _ hne
  have eT : (if (eB l' || lB l') = true then upd (mvTo x s l).T (fstA (mvTo x s l).T (plI s' l') (mvTo x s l).m) (plI s' l' + 1) else (mvTo x s l).T) = (if (eB l || lB l) = true then upd (mvTo x s' l').T (fstA (mvTo x s' l').T (plI s l) (mvTo x s' l').m) (plI s l + 1) else (mvTo x s' l').T) := by
    rw [e3, e4]
    have t1 : (mvTo x s l).T = if (eB l || lB l) = true then upd x.T (fstA x.T (plI s l) x.m) (plI s l + 1) else x.T := rfl
    have t2 : (mvTo x s' l').T = if (eB l' || lB l') = true then upd x.T (fstA x.T (plI s' l') x.m) (plI s' l' + 1) else x.T := rfl
    by_cases he : (eB l || lB l) = true
    · by_cases he' : (eB l' || lB l') = true
      · rw [if_pos he, if_pos he', hF he', hF' he, t1, t2, if_pos he, if_pos he']
        refine upd_comm _ _ _ (fun e => ?_)
        have q1 := fstA_at _ _ _ (a3 he)
        have q2 := fstA_at _ _ _ (b3 he')
        rw [e, q2] at q1
        rcases plI_two (s := s) he with q | q <;> rcases plI_two (s := s') he' with q' | q' <;> omega
      · rw [if_pos he, if_neg he', t1, if_pos he]
        rw [hF' he, t2, if_neg he']
    · by_cases he' : (eB l' || lB l') = true
      · rw [if_neg he, if_pos he', hF he', t1, if_neg he, t2, if_pos he']
      · rw [if_neg he, if_neg he', t1, if_neg he, t2, if_neg he']
  rw [e1, e2, e3, e4] at *
  rw [eN, eI, eO, eT]
theorem run_two {x : Ln} {s s' : Int} {l l' : ByteArray} (hv : vldL x = true) (h1 : mvOk x s l = true) (h2 : mvOk x s' l' = true) (hs : s ≠ s') :
    runL x [(s, l), (s', l')] = some (mvTo (mvTo x s l) s' l') ∧ runL x [(s', l'), (s, l)] = some (mvTo (mvTo x s l) s' l') := by
  have a := (mv_after hv h1 h2 hs).1
  have b := (mv_after hv h2 h1 (fun e => hs e.symm)).1
  constructor
  · show (stepO x s l).bind (fun y => (stepO y s' l').bind fun y => some y) = _
    rw [stepO_yes h1]
    show (stepO (mvTo x s l) s' l').bind (fun y => some y) = _
    rw [stepO_yes a]
    rfl
  · show (stepO x s' l').bind (fun y => (stepO y s l).bind fun y => some y) = _
    rw [stepO_yes h2]
    show (stepO (mvTo x s' l') s l).bind (fun y => some y) = _
    rw [stepO_yes b, mv_comm hv h1 h2 hs]
    rfl
end Go.Proofs.Ytokddeoliieofaa
namespace Go.Proofs.Ytokddeoliieofaa
open Go.RowKit

theorem Sb.below {B b : Nat} {bs : List Value} {w w' : World} (h : Sb B b bs w) (hb : Below w.heap.size w w') : Sb B b bs w' := by
  have key : ∀ p, Lib.BuilderAt 134 5 B b p bs w → Lib.BuilderAt 134 5 B b p bs w' := fun p hp => by
    have hl := hp.lt
    obtain ⟨h1, v, h2, h3, h4⟩ := hp
    refine ⟨h1, v, (hb.block b hl).trans h2, h3.kept (grownBy_below hb none) ?_, h4⟩
    cases v.ownBlock with
    | none => exact .inl rfl
    | some q => exact .inr (by simp)
  rcases h with h | h
  · exact .inl (key _ h)
  · exact .inr (key _ h)
/-- the letters of a section's moves -/
def txL (ms : List (Int × ByteArray)) (k : Int) : List UInt8 := (ms.filter fun z => decide (z.1 = k)).flatMap fun z => z.2.data.toList
theorem txL_snoc_yes {ms : List (Int × ByteArray)} {z : Int × ByteArray} {k : Int} (h : z.1 = k) : txL (ms ++ [z]) k = txL ms k ++ z.2.data.toList := by
  unfold txL
  rw [List.filter_append, List.flatMap_append]
  simp [h]
theorem txL_snoc_no {ms : List (Int × ByteArray)} {z : Int × ByteArray} {k : Int} (h : ¬ z.1 = k) : txL (ms ++ [z]) k = txL ms k := by
  unfold txL
  rw [List.filter_append, List.flatMap_append]
  simp [h]
theorem txL_len {k : Int} : ∀ ms : List (Int × ByteArray), (∀ z, z ∈ ms → z.2.size ≤ 1000) → (txL ms k).length ≤ ms.length * 1000
  | [], _ => by simp [txL]
  | z :: ms, h => by
    have ih := txL_len (k := k) ms (fun z hz => h z (List.mem_cons_of_mem _ hz))
    have hz := h z (List.mem_cons_self ..)
    have hs : z.2.data.toList.length ≤ 1000 := by simpa using hz
    have e : txL (z :: ms) k = (if z.1 = k then z.2.data.toList else []) ++ txL ms k := by
      unfold txL
      rw [List.filter_cons]
      by_cases h1 : z.1 = k
      · simp [h1]
      · simp [h1]
    rw [e, List.length_append, List.length_cons, Nat.succ_mul]
    split
    · omega
    · rw [List.length_nil]
      omega
structure LtM (w wr : World) (l : List UInt8) : Prop where
  sb : Sb w.heap.size w.heap.size (Lib.byteCells l) wr
  bl : Below w.heap.size w wr
end Go.Proofs.Ytokddeoliieofaa
namespace Go.Proofs.Ytokddeoliieofaa
open Go.RowKit

/-- the letters that a section in a state still gets, so many trains not yet through; with fuel -/
def cyF : Nat → Nat → Nat → List UInt8
  | 0, _, _ => []
  | f + 1, 0, t => if t = 0 then [] else 111 :: cyF f 1 t
  | f + 1, 1, t => if t = 0 then 114 :: cyF f 0 0 else 97 :: cyF f 2 t
  | f + 1, 2, t => if t = 0 then 99 :: cyF f 0 0 else 101 :: cyF f 3 (t - 1)
  | f + 1, 3, t => 108 :: cyF f 4 t
  | f + 1, _ + 4, t => 102 :: cyF f 0 t
theorem tk_other {x : Ln} {k : Nat} {l : ByteArray} (ho : mvOk x k l = true) (q : Nat) (hq : q ≠ k) : tk (mvTo x k l) q = tk x q := by
  obtain ⟨k', e, _, _, hkind⟩ := mv_kind ho
  obtain rfl : k = k' := by omega
  rcases hkind with ⟨hT, _⟩ | ⟨i, hi, hp, _, hT, _⟩ | ⟨i, hi, hp, _, hT, _⟩
  · unfold tk; rw [hT]; rfl
  · have h := tk_mv hi hp hT q
    rw [if_neg (by omega)] at h
    omega
  · have h := tk_mv hi hp hT q
    rw [if_neg (by omega)] at h
    omega
theorem txL_cons {z : Int × ByteArray} {ms : List (Int × ByteArray)} {k : Int} : txL (z :: ms) k = (if z.1 = k then z.2.data.toList else []) ++ txL ms k := by
  unfold txL
  rw [List.filter_cons]
  by_cases h1 : z.1 = k
  · simp [h1]
  · simp [h1]
theorem cy_step {s J t t' : Nat} {c : UInt8} (hJ : nx s c.toNat = J) (hJ5 : J < 5) (ht : t' = t ∧ ¬ (s = 2 ∧ J = 3) ∨ t' + 1 = t ∧ s = 2 ∧ J = 3) (hl : lefK J t' + 1 = lefK s t) :
    cyF (lefK s t).toNat s t = c :: cyF (lefK J t').toNat J t' := by
  have hc : ∀ d : UInt8, ((c.toNat : Nat) : Int) = (d.toNat : Int) → c = d := fun d h => UInt8.toNat_inj.1 (by omega)
  have h5 : nx s c.toNat < 5 := by omega
  have hp := lefK_pos J t'
  have e : (lefK s t).toNat = (lefK J t').toNat + 1 := by omega
  rw [e]
  rcases nx_cases h5 with ⟨a, b, d⟩ | ⟨a, b, d⟩ | ⟨a, b, d⟩ | ⟨a, b, d⟩ | ⟨a, b, d⟩ | ⟨a, b, d⟩ | ⟨a, b, d⟩
  all_goals
    rw [d] at hJ
    subst hJ
    subst a
    simp only [lefK] at hl
  · obtain rfl := hc 111 b
    obtain rfl : t' = t := by omega
    show (if t' = 0 then [] else _) = _
    rw [if_neg (by split at hl <;> omega)]
  · obtain rfl := hc 114 b
    obtain rfl : t' = t := by omega
    obtain rfl : t' = 0 := by split at hl <;> omega
    rfl
  · obtain rfl := hc 97 b
    obtain rfl : t' = t := by omega
    show (if t' = 0 then _ else _) = _
    rw [if_neg (by split at hl <;> (try split at hl) <;> omega)]
  · obtain rfl := hc 99 b
    obtain rfl : t' = t := by omega
    obtain rfl : t' = 0 := by split at hl <;> omega
    rfl
  · obtain rfl := hc 101 b
    obtain rfl : t = t' + 1 := by omega
    show (if t' + 1 = 0 then _ else _) = _
    rw [if_neg (by omega)]
    rfl
  · obtain rfl := hc 108 b
    obtain rfl : t' = t := by omega
    rfl
  · obtain rfl := hc 102 b
    obtain rfl : t' = t := by omega
    rfl
theorem fin_text : ∀ (q : Nat) (x : Ln), vldL x = true → lefS x x.n = q → ∀ k : Nat, k < x.n → txL (finX x) k = cyF (lefK (sk x k) (tk x k)).toNat (sk x k) (tk x k)
  | 0, x, hv, h, k, hk => by
    have e : finX x = [] := finX_done (by omega)
    have hz := lefT_zero x.n (by rw [← lefS_T hv x.n (Nat.le_refl _)]; exact h) k hk
    rw [e, hz]
    rfl
  | q + 1, x, hv, h, k, hk => by
    obtain ⟨z, hz, _⟩ := nearM_some hv (by omega)
    obtain ⟨h1, h2, h3⟩ := near_step hv hz
    have ih := fin_text q (mvTo x z.1 z.2) h2 (by omega) k hk
    have e : finX x = z :: finX (mvTo x z.1 z.2) := finX_step (by omega) hz
    have ho := (near_less hz).1
    obtain ⟨s, l⟩ := z
    obtain ⟨kz, c, es, hkz, rfl, hJ, hJ5, _⟩ := mv_is ho
    obtain rfl : s = kz := es
    replace ho : mvOk x kz (chr c) = true := ho
    replace hJ : mvJ x kz (chr c) = nx (sk x kz) c.toNat := hJ
    replace hJ5 : mvJ x kz (chr c) < 5 := hJ5
    replace ih : txL (finX (mvTo x kz (chr c))) k = cyF (lefK (sk (mvTo x kz (chr c)) k) (tk (mvTo x kz (chr c)) k)).toNat (sk (mvTo x kz (chr c)) k) (tk (mvTo x kz (chr c)) k) := ih
    replace h3 : lefS (mvTo x kz (chr c)) x.n + 1 = lefS x x.n := h3
    rw [e, txL_cons]
    show (if (kz : Int) = (k : Int) then (chr c).data.toList else []) ++ txL (finX (mvTo x kz (chr c))) k = _
    rw [ih, sk_mv hJ5]
    by_cases hkk : k = kz
    · subst hkk
      rw [if_pos rfl, if_pos rfl]
      obtain ⟨g1, g2⟩ := lefT_mv ho hk
      have e1 := lefS_T hv x.n (Nat.le_refl _)
      have e2 : lefS (mvTo x k (chr c)) x.n = lefT (mvTo x k (chr c)) x.n := lefS_T (vld_mv hv ho) x.n (Nat.le_refl _)
      rw [hJ] at g1 g2 ⊢
      exact (cy_step rfl (by omega) g2 (by omega)).symm
    · rw [if_neg hkk, if_neg (by omega), tk_other ho k hkk]
      rfl
theorem cy_rep : ∀ t : Nat, cyF (5 * t) 0 t = Lib.repeatL [111, 97, 101, 108, 102] t
  | 0 => rfl
  | t + 1 => by
    have ih := cy_rep t
    have e : cyF (5 * t + 1 + 1 + 1 + 1 + 1) 0 (t + 1) = 111 :: 97 :: 101 :: 108 :: 102 :: cyF (5 * t) 0 t := by
      simp [cyF]
    rw [show 5 * (t + 1) = 5 * t + 1 + 1 + 1 + 1 + 1 by omega, e, ih]
    rfl
theorem leA_all {f : Nat → Int} {p : Int} : ∀ m, (∀ i, f i ≤ p) → leA f p m = m
  | 0, _ => rfl
  | m + 1, h => by
    simp only [leA]
    rw [leA_all m h, if_pos (h m)]
theorem new_text {n m : Nat} (h1 : 1 ≤ n) (h2 : n ≤ 5) (h3 : m ≤ 5) {k : Nat} (hk : k < n) : txL (fnL (newL n m)) k = Lib.repeatL [111, 97, 101, 108, 102] m := by
  have hv := newL_vld h1 h2 h3
  obtain ⟨q, hq⟩ := lefS_nn (newL n m)
  rw [show fnL (newL n m) = finX (newL n m) from if_pos hv, fin_text q _ hv hq k hk]
  have e1 : sk (newL n m) k = 0 := nrm_sk rfl
  have e2 : tk (newL n m) k = m := leA_all m (fun i => by show (0 : Int) ≤ 2 * (k : Int); omega)
  rw [e1, e2]
  have e3 : (lefK 0 m).toNat = 5 * m := by simp only [lefK]; omega
  rw [e3]
  exact cy_rep m
end Go.Proofs.Ytokddeoliieofaa
