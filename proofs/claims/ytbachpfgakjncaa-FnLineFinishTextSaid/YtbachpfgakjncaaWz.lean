/-
  The program's LineWaits; the draw of a line that is sometimes done.
  Plain laws: moves of two sections do not depend on their order.
  WriteString; the program's LineText and BlockCycle.
  Plain law: LineFinish's moves of a section of a new line are the cycle, once for each train.
-/
import Derived.Test.YtbachpfgakjncaaVz
import Derived.Test.YtbachpfgakjncaaSh
namespace Go.Proofs.Ytbachpfgakjncaa
open Go.RowKit

set_option linter.unusedSimpArgs false in
set_option maxHeartbeats 2000000 in
theorem lineWaits_at (bb bo cb tb tu ct : Nat) (x : Ln) (b : Nat) (w : World) (hv : vldL x = true) (hb : b ≤ x.n) (hbk : BkC w bb bo x.n x.N x.I x.O) (hic : IC w tb tu x.m x.T) :
    Calls Try.prog 43 #[.agg #[.slice (some ⟨bb, bo, none⟩) x.n cb, .slice (some ⟨tb, tu, none⟩) x.m ct], .int .i64 b] w fun e w' => e = .returned (.int .i64 (cntA x.T (2 * b) x.m)) ∧ Below w.heap.size w w' := by
  have hvl := vldL_true hv
  have hn5 : x.n ≤ 5 := hvl.2.1
  have hm5 : x.m ≤ 5 := hvl.2.2.1
  clear hvl
  have HBB : Hid (∀ a, Below w.heap.size w (w.alloc a)) := fun a => below_all _ _
  have HRW := Lib.hid (railway_at (cb := cb) (ct := ct) (by omega) (by omega) hbk hic)
  have HV := Lib.hid hv
  clear hbk hic hv
  go_enter Try.func43, Try.ntmps43
  go_wp2_with fail
  refine (HRW.out _ (HBB.out _)).mono ?_
  rintro e w1 ⟨hb1, h1⟩
  have HB1 := Lib.hid ((HBB.out _).trans (hb1.mono (by simp)))
  rcases h1 with ⟨_, s, rfl, r, gb, cb', gt, ct', rfl, hrw, k1, k2, k3⟩ | ⟨hv, _⟩
  · have HR := Lib.hid hrw
    have HCO : Hid (Calls Try.prog 73 #[.pointer (some ⟨r, 0, none⟩), .int .i64 (2 * b)] w1 fun e w' => e = .returned (.int .i64 (cntA x.T (2 * b) x.m)) ∧ w1 = w') := count_any r _ gt 0 x.m ct' x.T (2 * b) w1 (by omega) hrw.box hrw.ic
    have hrc := hrw.box.cell
    clear hrw k1 k2 k3 hb1
    have hbi : ¬ (x.n : Int) < (b : Int) := by omega
    go_wp2_with fail
    refine HCO.out.mono ?_
    rintro e w2 ⟨rfl, rfl⟩
    go_wp2_with fail
    go_ret
    exact ⟨rfl, HB1.out⟩
  · rw [HV.out] at hv
    cases hv
theorem LbM.waits {w wr : World} {b g1 c1 g2 c2 : Nat} {x : Ln} (h : LbM w wr b g1 c1 g2 c2 x) (hv : vldL x = true) (k : Nat) (hk : k ≤ x.n) : Calls Try.prog 43 #[.agg #[.slice (some ⟨g1, 0, none⟩) x.n c1, .slice (some ⟨g2, 0, none⟩) x.m c2], .int .i64 k] wr fun e w' => e = .returned (.int .i64 (cntA x.T (2 * k) x.m)) ∧ Below wr.heap.size wr w' :=
  lineWaits_at g1 0 c1 g2 0 c2 x k wr hv hk (BkC.of_own h.bs) (IC.of_own h.ts)
theorem fnL_le (x : Ln) : (fnL x).length ≤ 135 := by
  unfold fnL
  split
  · rename_i h
    have h1 := lefS_135 h
    have h2 := finL_len (lefS x x.n).toNat x
    unfold finX
    omega
  · simp
theorem rnO_fin {x : Ln} (hv : vldL x = true) : ∃ y, rnO x (mvM (fnL x)) (mvS (fnL x)) (fnL x).length = some y ∧ vldL y = true ∧ lefS y y.n = 0 ∧ y.n = x.n ∧ y.m = x.m := by
  obtain ⟨q, hq⟩ := lefS_nn x
  obtain ⟨h1, h2⟩ := fin_run q x hv hq
  obtain ⟨y, g1, g2, g3, _, g5, g6⟩ := h2 q (Nat.le_refl _)
  refine ⟨y, ?_, g2, by rw [g3]; simp, g5, g6⟩
  unfold rnO
  rw [if_pos hv, runO_all, show fnL x = finX x from if_pos hv]
  rw [← h1, List.take_length] at g1
  exact g1
theorem RdL.pickO {w w' : World} {g cap n s R : Nat} {t : TypeId} {f : Nat → Value} (h : Own w g cap n s t f) (hb : w.grownBy w' (some R)) (hg : R < g) : Own w' g cap n s t f := h.kept hb (by simp; omega)
set_option linter.unusedSimpArgs false in
set_option maxRecDepth 100000 in
set_option maxHeartbeats 2000000 in
theorem drawLDone_any (ao : Option Addr) (n c : Nat) (w : World) (hnc : n ≤ c) (hn : n ≤ 9223372036854775807) (hB : BSl w ao n) :
    Calls Try.prog 41 #[.slice ao n c] w (DrL w) := by
  have hbb : ∀ a, Below w.heap.size w (w.alloc a) := fun a => below_all w a
  have HBS := Lib.hid (fun a => hB.keep (hbb a))
  have HBB := Lib.hid hbb
  clear hB hbb
  go_enter Try.func41, Try.ntmps41
  go_wp2_with fail
  refine (open_any ao n c _ hn hnc (HBS.out _)).mono ?_
  rintro e w1 ⟨R, rfl, hR, hr1, hb1⟩
  rw [World.size_alloc] at hR hb1
  have HX1 := Lib.hid ((Bx.new w _ _).below hb1 (by omega))
  have HB1 := Lib.hid ((HBB.out _).trans (hb1.mono (by omega)))
  have HR1 := Lib.hid hr1
  have hz1 : w.heap.size + 1 ≤ w1.heap.size := by have := hb1.size; simpa using this
  have hlR := hr1.lt
  clear hb1 hr1
  go_wp2_with fail
  refine (l92Line_any R 0 _ (by omega) HR1.out).mono ?_
  rintro e w2 ⟨v, x, rfl, hl, hx1, hx2, hx3, hr2, hg2⟩
  have HL2 := Lib.hid hl
  have HB2 := Lib.hid (HB1.out.trans (below_of_grown hg2 (by omega) (by omega)))
  have HX2 := Lib.hid (HX1.out.kept hg2 (by omega))
  have HR2 := Lib.hid hr2
  have hz2 : w1.heap.size ≤ w2.heap.size := hg2.size
  have HG : Hid (∀ g1 c1 g2 c2, (Value.agg #[.slice (some ⟨g1, 0, none⟩) x.n c1, .slice (some ⟨g2, 0, none⟩) x.m c2]) = v → R < g1 ∧ R < g2) := by
    rintro g1 c1 g2 c2 rfl
    obtain ⟨_, _, _, _, e, _, _, _, a1, a2⟩ := hl
    cases e
    exact ⟨by omega, by omega⟩
  obtain ⟨g1, c1, g2, c2, rfl, _⟩ := hl
  obtain ⟨hg1, hg2'⟩ := HG.out g1 c1 g2 c2 rfl
  clear hg2 hr2 HX1 HR1 HG
  have HM3 : Hid (LbM w (w2.alloc (.cells #[.slice (some ⟨g1, 0, none⟩) x.n c1, .slice (some ⟨g2, 0, none⟩) x.m c2] 26)) w2.heap.size g1 c1 g2 c2 x) := LbM.new HB2.out HL2.out (by omega) (by omega)
  have HX3 : Hid (Bx (w2.alloc (.cells #[.slice (some ⟨g1, 0, none⟩) x.n c1, .slice (some ⟨g2, 0, none⟩) x.m c2] 26)) w.heap.size 26 #[.slice none 0 0, .slice none 0 0]) := HX2.out.alloc _
  have HR3 : Hid (RdL (w2.alloc (.cells #[.slice (some ⟨g1, 0, none⟩) x.n c1, .slice (some ⟨g2, 0, none⟩) x.m c2] 26)) R (0 + 30)) := HR2.out.alloc _
  have HO3 : Hid ((∃ z, LnO z (w2.alloc (.cells #[.slice (some ⟨g1, 0, none⟩) x.n c1, .slice (some ⟨g2, 0, none⟩) x.m c2] 26)) (.agg #[.slice (some ⟨g1, 0, none⟩) x.n c1, .slice (some ⟨g2, 0, none⟩) x.m c2]) x ∧ R < z)) := ⟨_, HL2.out.below (below_all _ _) (Nat.le_refl _), hlR⟩
  clear HX2 HR2 HL2 HB2
  go_wp2_with fail
  have hb4 : R < w2.heap.size := by omega
  have hb4r : w.heap.size < w2.heap.size := by omega
  generalize w2.alloc (.cells #[.slice (some ⟨g1, 0, none⟩) x.n c1, .slice (some ⟨g2, 0, none⟩) x.m c2] 26) = w3 at *
  generalize w2.heap.size = b4 at *
  have hbc := HM3.out.box.cell
  have HF := Lib.hid (specLineFinish_any g1 0 c1 g2 0 c2 x w3 (by omega) (by omega) HM3.out.bs.lt HM3.out.ts.lt (BkC.of_own HM3.out.bs) (IC.of_own HM3.out.ts))
  go_wp2_with fail
  refine HF.out.mono ?_
  rintro e w4 ⟨⟨v, g, rfl, hrow⟩, hb⟩
  have HM4 := Lib.hid (HM3.out.below hb)
  have HX4 := Lib.hid (HX3.out.below hb HX3.out.lt)
  have HR4 := Lib.hid (HR3.out.keep hb)
  have hl4 := HM3.out.box.lt
  have hz4 := hb.size
  rcases hrow with ⟨g, cm, e, rfl, hgz, how⟩ | ⟨h, _⟩
  rotate_left
  · cases h
  cases e
  have HO4 := Lib.hid how
  obtain ⟨z0, hz0⟩ : ∃ z0, z0 = w3.heap.size := ⟨_, rfl⟩
  rw [← hz0] at hgz hl4 hz4
  have HL4 : Hid (∃ z, LnO z w4 (.agg #[.slice (some ⟨g1, 0, none⟩) x.n c1, .slice (some ⟨g2, 0, none⟩) x.m c2]) x ∧ R < z) := by
    obtain ⟨z, h1, h2⟩ := HO3.out
    exact ⟨z, h1.below hb (Nat.le_refl _), h2⟩
  clear hb how hbc HM3 HX3 HR3 HO3 HF hz0
  have hbc := HM4.out.box.cell
  have hxc := HX4.out.cell
  have hxf := HX4.out.free
  cases hv : vldL x
  · clear hv
    go_wp2_with fail
    obtain ⟨z, hl, hz⟩ := HL4.out
    exact bodyPost_ret (v := .agg #[.slice (some ⟨g1, 0, none⟩) x.n c1, .slice (some ⟨g2, 0, none⟩) x.m c2]) (by simp [results, Try.results41, go_sem, hxc]) rfl ⟨_, x, rfl, ((hl.setOther (by omega) _).setOther (by omega) _).mono (by omega), hx1, hx2, hx3, (HM4.out.bl.setCell (Nat.le_refl _) _).setCell (Nat.le_refl _) _⟩
  obtain ⟨y, hy, _, _, hyn, hym⟩ := rnO_fin hv
  have HY := Lib.hid hy
  have hyn1 : 1 ≤ y.n ∧ y.n ≤ 4 ∧ y.m ≤ 5 := by omega
  have hml := fnL_le x
  clear hv hy hyn hym
  go_wp2_with fail
  refine (pickN_any R (0 + 30) 2 _ (by omega) (by omega) HR4.out).mono ?_
  rintro e w5 ⟨u, rfl, hu, hr5, hg5⟩
  have HX5 := Lib.hid (HX4.out.kept hg5 (by omega))
  have hzg : w4.heap.size ≤ w5.heap.size := hg5.size
  have HB5 := Lib.hid (HM4.out.bl.trans (below_of_grown hg5 (by omega) (by have := HM4.out.bl.size; omega)))
  have HO5 := Lib.hid (HO4.out.kept hg5 (by simp; omega))
  have HBS5 := Lib.hid (HM4.out.bs.kept hg5 (by simp; omega))
  have HTS5 := Lib.hid (HM4.out.ts.kept hg5 (by simp; omega))
  have HBX5 := Lib.hid (HM4.out.box.kept hg5 (by omega))
  have HD : Hid (g1 ≠ g2) := by
    obtain ⟨_, h, _⟩ := HL4.out
    obtain ⟨_, _, _, _, e, _, _, h, _⟩ := h
    cases e
    exact h
  clear hr5 hg5 HX4 HR4 HM4 HO4 HL4 hbc hxc hxf
  have hbc := HBX5.out.cell
  have hxc := HX5.out.cell
  have hxf := HX5.out.free
  by_cases hu0 : u = 0
  · subst hu0
    have HRN := Lib.hid (specLineRun_any g1 0 c1 g2 0 c2 g 0 (fnL x).length cm x (mvM (fnL x)) (mvS (fnL x)) w5 (by omega) (by omega) (by omega) (BkC.of_own HBS5.out) (IC.of_own HTS5.out) (MvsC.of_own HO5.out))
    go_wp2_with fail
    refine HRN.out.mono ?_
    rintro e w6 h6
    obtain ⟨v, rfl, hl6, hb6⟩ := h6.some HY.out
    have HL6 := Lib.hid hl6
    have HX6 := Lib.hid (HX5.out.below hb6 HX5.out.lt)
    have HB6 := Lib.hid (HB5.out.trans (hb6.mono HB5.out.size))
    have hl5 := HX5.out.lt
    obtain ⟨p1, e1, p2, e2, rfl, _⟩ := hl6
    clear hb6 h6 hbc hxc hxf
    have hxc := HX6.out.cell
    have hxf := HX6.out.free
    have hl6 := HX6.out.lt
    have hne : w6.heap.size ≠ w.heap.size := by omega
    go_wp2_with fail
    exact bodyPost_ret (v := .agg #[.slice (some ⟨p1, 0, none⟩) y.n e1, .slice (some ⟨p2, 0, none⟩) y.m e2]) (by simp [results, Try.results41, go_sem, hxc, hl6]) rfl ⟨_, y, rfl, (((HL6.out.setOther (by omega) _).setOther (by omega) _).below (below_all _ _) (Nat.le_refl _)).mono (by omega), hyn1.1, hyn1.2.1, hyn1.2.2, ((HB6.out.setCell (Nat.le_refl _) _).setCell (Nat.le_refl _) _).alloc (by simp; omega) _⟩
  · have hu1 : ((u : Int) == 0) = false := by simp; omega
    clear hu0
    go_wp2_with fail
    exact bodyPost_ret (v := .agg #[.slice (some ⟨g1, 0, none⟩) x.n c1, .slice (some ⟨g2, 0, none⟩) x.m c2]) (by simp [results, Try.results41, go_sem, hxc]) rfl ⟨_, x, rfl, ⟨g1, c1, g2, c2, rfl, (HBS5.out.setOther (by dsimp only; omega) _).setOther (by dsimp only; omega) _, (HTS5.out.setOther (by dsimp only; omega) _).setOther (by dsimp only; omega) _, HD.out, by omega, by omega⟩, hx1, hx2, hx3, (HB5.out.setCell (Nat.le_refl _) _).setCell (Nat.le_refl _) _⟩
end Go.Proofs.Ytbachpfgakjncaa
namespace Go.Proofs.Ytbachpfgakjncaa
open Go.RowKit

theorem tr_down {x : Ln} (h : ∀ i, i < x.m → trOk x i = true) : ∀ (j i : Nat), i ≤ j → j < x.m → x.T j ≤ x.T i
  | 0, i, hi, _ => by
    obtain rfl : i = 0 := by omega
    exact Int.le_refl _
  | j + 1, i, hi, hj => by
    rcases Nat.lt_or_ge i (j + 1) with h1 | h1
    · have ih := tr_down h j i (by omega) (by omega)
      have h2 := (trOk_true.1 (h (j + 1) hj)).2
      rcases h2 with h2 | h2
      · omega
      · rw [show j + 1 - 1 = j by omega] at h2
        omega
    · obtain rfl : i = j + 1 := by omega
      exact Int.le_refl _
theorem upd_same {α : Type} (f : Nat → α) (i : Nat) (v : α) : upd f i v i = v := if_pos rfl
theorem upd_other {α : Type} (f : Nat → α) {i j : Nat} (v : α) (h : j ≠ i) : upd f i v j = f j := if_neg h
theorem upd_comm {α : Type} (f : Nat → α) {i j : Nat} (a b : α) (h : i ≠ j) : upd (upd f i a) j b = upd (upd f j b) i a := by
  funext q
  unfold upd
  by_cases h1 : q = j
  · subst h1
    rw [if_pos rfl, if_neg (fun e => h e.symm), if_pos rfl]
  · rw [if_neg h1]
    by_cases h2 : q = i
    · rw [if_pos h2, if_pos h2]
    · rw [if_neg h2, if_neg h2, if_neg h1]
theorem plI_two {s : Int} {l : ByteArray} (h : (eB l || lB l) = true) : plI s l = 2 * s ∨ plI s l = 2 * s + 1 := by
  unfold plI
  by_cases h1 : eB l = true
  · rw [if_pos h1]; exact .inl rfl
  · rw [if_neg h1]
    rw [Bool.or_eq_true] at h
    rw [if_pos (h.resolve_left h1)]
    exact .inr rfl
theorem fst_upd {x : Ln} (h : ∀ i, i < x.m → trOk x i = true) {p p' : Int} (hp : fstA x.T p x.m < x.m) (hp' : fstA x.T p' x.m < x.m) (hne : p ≠ p') : fstA (upd x.T (fstA x.T p x.m) (p + 1)) p' x.m = fstA x.T p' x.m := by
  have h1 := fstA_at _ _ _ hp
  have h2 := fstA_at _ _ _ hp'
  have h3 := fstA_before x.T p' x.m
  have hij : fstA x.T p' x.m ≠ fstA x.T p x.m := fun e => by rw [e, h1] at h2; exact hne h2
  refine fstA_stop _ _ (fun q hq => ?_) ?_ x.m hp'
  · by_cases e : q = fstA x.T p x.m
    · rw [e, upd_same]
      intro he
      have h4 := tr_down h (fstA x.T p' x.m) (fstA x.T p x.m) (by omega) hp'
      omega
    · rw [upd_other _ _ e]
      exact h3 q hq
  · rw [upd_other _ _ hij]
    exact h2
theorem mvOk_parts {x : Ln} {s : Int} {l : ByteArray} : mvOk x s l = true ↔ (0 ≤ s ∧ s ≤ (x.n : Int) - 1) ∧ mvJ x s l < 5 ∧ ((eB l || lB l) = true → fstA x.T (plI s l) x.m < x.m) := by
  unfold mvOk
  rw [Bool.and_eq_true, Bool.and_eq_true, inB_true, decide_eq_true_eq, Bool.or_eq_true, decide_eq_true_eq]
  cases (eB l || lB l) <;> simp
theorem mv_after {x : Ln} {s s' : Int} {l l' : ByteArray} (hv : vldL x = true) (h1 : mvOk x s l = true) (h2 : mvOk x s' l' = true) (hs : s ≠ s') :
    mvOk (mvTo x s l) s' l' = true ∧ mvJ (mvTo x s l) s' l' = mvJ x s' l' ∧ ((eB l' || lB l') = true → fstA (mvTo x s l).T (plI s' l') x.m = fstA x.T (plI s' l') x.m) := by
  obtain ⟨a1, a2, a3⟩ := mvOk_parts.1 h1
  obtain ⟨b1, b2, b3⟩ := mvOk_parts.1 h2
  have ht := (vldL_true hv).2.2.2.2.1
  have hne : s'.toNat ≠ s.toNat := by omega
  have hJ : mvJ (mvTo x s l) s' l' = mvJ x s' l' := by
    unfold mvJ mvTo
    show bsI (upd _ _ _ _) (upd _ _ _ _) (upd _ _ _ _) l' = _
    rw [upd_other _ _ hne, upd_other _ _ hne, upd_other _ _ hne]
  have hF : (eB l' || lB l') = true → fstA (mvTo x s l).T (plI s' l') x.m = fstA x.T (plI s' l') x.m := fun he' => by
    unfold mvTo
    by_cases he : (eB l || lB l) = true
    · simp only [he, if_true]
      refine fst_upd ht (a3 he) (b3 he') (fun e => ?_)
      rcases plI_two (s := s) he with q | q <;> rcases plI_two (s := s') he' with q' | q' <;> omega
    · simp only [he]
      simp
  refine ⟨mvOk_parts.2 ⟨b1, by rw [hJ]; exact b2, fun he => ?_⟩, hJ, hF⟩
  show fstA (mvTo x s l).T (plI s' l') x.m < x.m
  rw [hF he]
  exact b3 he
theorem mv_comm {x : Ln} {s s' : Int} {l l' : ByteArray} (hv : vldL x = true) (h1 : mvOk x s l = true) (h2 : mvOk x s' l' = true) (hs : s ≠ s') :
    mvTo (mvTo x s l) s' l' = mvTo (mvTo x s' l') s l := by
  obtain ⟨a1, a2, a3⟩ := mvOk_parts.1 h1
  obtain ⟨b1, b2, b3⟩ := mvOk_parts.1 h2
  obtain ⟨_, hJ, hF⟩ := mv_after hv h1 h2 hs
  obtain ⟨_, hJ', hF'⟩ := mv_after hv h2 h1 (fun e => hs e.symm)
  have hne : s.toNat ≠ s'.toNat := by omega
  have key : ∀ (y : Ln) (t : Int) (m : ByteArray), mvTo y t m = { n := y.n, N := upd y.N t.toNat (stB (mvJ y t m)).n, I := upd y.I t.toNat (stB (mvJ y t m)).i, O := upd y.O t.toNat (stB (mvJ y t m)).o, m := y.m, T := if (eB m || lB m) = true then upd y.T (fstA y.T (plI t m) y.m) (plI t m + 1) else y.T } := fun _ _ _ => rfl
  rw [key (mvTo x s l) s' l', key (mvTo x s' l') s l, hJ, hJ']
  have e1 : (mvTo x s l).n = x.n := rfl
  have e2 : (mvTo x s' l').n = x.n := rfl
  have e3 : (mvTo x s l).m = x.m := rfl
  have e4 : (mvTo x s' l').m = x.m := rfl
  have eN : upd (mvTo x s l).N s'.toNat (stB (mvJ x s' l')).n = upd (mvTo x s' l').N s.toNat (stB (mvJ x s l)).n := upd_comm _ _ _ hne
  have eI : upd (mvTo x s l).I s'.toNat (stB (mvJ x s' l')).i = upd (mvTo x s' l').I s.toNat (stB (mvJ x s l)).i := upd_comm _ _ _ hne
  have eO : upd (mvTo x s l).O s'.toNat (stB (mvJ x s' l')).o = upd (mvTo x s' l').O s.toNat (stB (mvJ x s l)).o := upd_comm _ _ _ hne
  have eT : (if (eB l' || lB l') = true then upd (mvTo x s l).T (fstA (mvTo x s l).T (plI s' l') (mvTo x s l).m) (plI s' l' + 1) else (mvTo x s l).T) = (if (eB l || lB l) = true then upd (mvTo x s' l').T (fstA (mvTo x s' l').T (plI s l) (mvTo x s' l').m) (plI s l + 1) else (mvTo x s' l').T) := by
    rw [e3, e4]
    have t1 : (mvTo x s l).T = if (eB l || lB l) = true then upd x.T (fstA x.T (plI s l) x.m) (plI s l + 1) else x.T := rfl
    have t2 : (mvTo x s' l').T = if (eB l' || lB l') = true then upd x.T (fstA x.T (plI s' l') x.m) (plI s' l' + 1) else x.T := rfl
    by_cases he : (eB l || lB l) = true
    · by_cases he' : (eB l' || lB l') = true
      · rw [if_pos he, if_pos he', hF he', hF' he, t1, t2, if_pos he, if_pos he']
        refine upd_comm _ _ _ (fun e => ?_)
        have q1 := fstA_at _ _ _ (a3 he)
        have q2 := fstA_at _ _ _ (b3 he')
        rw [e, q2] at q1
        rcases plI_two (s := s) he with q | q <;> rcases plI_two (s := s') he' with q' | q' <;> omega
      · rw [if_pos he, if_neg he', t1, if_pos he]
        rw [hF' he, t2, if_neg he']
    · by_cases he' : (eB l' || lB l') = true
      · rw [if_neg he, if_pos he', hF he', t1, if_neg he, t2, if_pos he']
      · rw [if_neg he, if_neg he', t1, if_neg he, t2, if_neg he']
  rw [e1, e2, e3, e4] at *
  rw [eN, eI, eO, eT]
theorem run_two {x : Ln} {s s' : Int} {l l' : ByteArray} (hv : vldL x = true) (h1 : mvOk x s l = true) (h2 : mvOk x s' l' = true) (hs : s ≠ s') :
    runL x [(s, l), (s', l')] = some (mvTo (mvTo x s l) s' l') ∧ runL x [(s', l'), (s, l)] = some (mvTo (mvTo x s l) s' l') := by
  have a := (mv_after hv h1 h2 hs).1
  have b := (mv_after hv h2 h1 (fun e => hs e.symm)).1
  constructor
  · show (stepO x s l).bind (fun y => (stepO y s' l').bind fun y => some y) = _
    rw [stepO_yes h1]
    show (stepO (mvTo x s l) s' l').bind (fun y => some y) = _
    rw [stepO_yes a]
    rfl
  · show (stepO x s' l').bind (fun y => (stepO y s l).bind fun y => some y) = _
    rw [stepO_yes h2]
    show (stepO (mvTo x s' l') s l).bind (fun y => some y) = _
    rw [stepO_yes b, mv_comm hv h1 h2 hs]
    rfl
end Go.Proofs.Ytbachpfgakjncaa
namespace Go.Proofs.Ytbachpfgakjncaa
open Go.RowKit

set_option maxRecDepth 1000 in
set_option maxHeartbeats 2000000 in
theorem writeString_any (B b : Nat) (bs : List Value) (s : ByteArray) (w : World) (h : Sb B b bs w) (hlen : bs.length + s.size ≤ 140737488355328) (hBw : B ≤ w.heap.size) :
    Calls Try.prog 70 #[.pointer (some ⟨b, 0, none⟩), .string s] w fun e w' => e = .returned (.tuple #[.int .i64 s.size, .nilIface]) ∧ SbU B b (bs ++ Lib.strCells s) w' ∧ Below B w w' := by
  have HH := Lib.hid h
  clear h
  obtain ⟨i0, hi, hz0, hz1, hz2⟩ := info_parts (P := Try.prog) (e := 5) (z := .int .u8 0) (size := 1) (bytes := 1) (by kernel_rfl)
  have HI := Lib.hid hi
  clear hi
  go_enter Try.func70, Try.ntmps70
  go_wp2_with (go_at_call 99; go_must (refine (copyCheck_any B b bs _ HH.out).mono ?_))
  rintro e w1 ⟨rfl, h1, hb1⟩
  obtain ⟨hB, v, hbk, hown, hne⟩ := h1
  have c0 : w1.cell? ⟨b, 0, none⟩ = some (.pointer (some ⟨b, 0, none⟩)) := by rw [Lib.cell_of_heap hbk]; rfl
  have c1 : w1.cell? ⟨b, 1, none⟩ = some v := by rw [Lib.cell_of_heap hbk]; rfl
  have HBK := Lib.hid hbk
  clear hbk
  go_wp2_with (at_builtin; refine Lib.wpList_append_own_string _ rfl _ _ 22 9 rfl B 5 i0 Try.underlying22 Try.underlying9 HI.out hz0 hz1 hz2 _ _ _ rfl hown s rfl ?c3 ?c4 ?c5 ?_)
  case c3 => unfold maxLen; omega
  case c4 => omega
  case c5 => have := hb1.size; omega
  intro v' w2 hown' hgrow _
  have hbk := HBK.out
  have hlt : b < w1.heap.size := by
    rcases Nat.lt_or_ge b w1.heap.size with h' | h'
    · exact h'
    · simp [Array.getElem?_eq_none h'] at hbk
  have hb2 : w2.heap[b]? = some (.cells #[.pointer (some ⟨b, 0, none⟩), v] 93 (0, 0)) := by
    rw [hgrow.block b hlt (fun e => hne e.symm)]
    exact hbk
  have d0 : w2.cell? ⟨b, 0, none⟩ = some (.pointer (some ⟨b, 0, none⟩)) := by rw [Lib.cell_of_heap hb2]; rfl
  have d1 : w2.cell? ⟨b, 1, none⟩ = some v := by rw [Lib.cell_of_heap hb2]; rfl
  have f1 : w2.frozen? ⟨b, 1, none⟩ = false := Lib.frozen_of_heap hb2 1
  obtain ⟨ao, n', cap, rfl⟩ : ∃ ao n' cap, v' = .slice ao n' cap := by
    rcases hown'.2 with ⟨hv, _⟩ | ⟨g, cap, cur, hv, _⟩
    · exact ⟨_, _, _, hv⟩
    · exact ⟨_, _, _, hv⟩
  have HB2 := Lib.hid hb2
  clear hb2 hbk
  go_wp2_with fail
  go_ret2
  refine ⟨rfl, ?_, ?_⟩
  · exact Lib.BuilderAt.put (T := 93) (e := 5) hB HB2.out (bs' := bs ++ Lib.strCells s) (by simpa [Lib.strCells_length] using hown') (by decide)
  · exact (hb1.grown hgrow (by have := hb1.size; omega) (fun k hk => (hown.lt k hk).1)).setCell (p := ⟨b, 1, none⟩) hB _
theorem Sb.below {B b : Nat} {bs : List Value} {w w' : World} (h : Sb B b bs w) (hb : Below w.heap.size w w') : Sb B b bs w' := by
  have key : ∀ p, Lib.BuilderAt 93 5 B b p bs w → Lib.BuilderAt 93 5 B b p bs w' := fun p hp => by
    have hl := hp.lt
    obtain ⟨h1, v, h2, h3, h4⟩ := hp
    refine ⟨h1, v, (hb.block b hl).trans h2, h3.kept (grownBy_below hb none) ?_, h4⟩
    cases v.ownBlock with
    | none => exact .inl rfl
    | some q => exact .inr (by simp)
  rcases h with h | h
  · exact .inl (key _ h)
  · exact .inr (key _ h)
/-- the letters of a section's moves -/
def txL (ms : List (Int × ByteArray)) (k : Int) : List UInt8 := (ms.filter fun z => decide (z.1 = k)).flatMap fun z => z.2.data.toList
theorem txL_snoc_yes {ms : List (Int × ByteArray)} {z : Int × ByteArray} {k : Int} (h : z.1 = k) : txL (ms ++ [z]) k = txL ms k ++ z.2.data.toList := by
  unfold txL
  rw [List.filter_append, List.flatMap_append]
  simp [h]
theorem txL_snoc_no {ms : List (Int × ByteArray)} {z : Int × ByteArray} {k : Int} (h : ¬ z.1 = k) : txL (ms ++ [z]) k = txL ms k := by
  unfold txL
  rw [List.filter_append, List.flatMap_append]
  simp [h]
theorem txL_len {k : Int} : ∀ ms : List (Int × ByteArray), (∀ z, z ∈ ms → z.2.size ≤ 1000) → (txL ms k).length ≤ ms.length * 1000
  | [], _ => by simp [txL]
  | z :: ms, h => by
    have ih := txL_len (k := k) ms (fun z hz => h z (List.mem_cons_of_mem _ hz))
    have hz := h z (List.mem_cons_self ..)
    have hs : z.2.data.toList.length ≤ 1000 := by simpa using hz
    have e : txL (z :: ms) k = (if z.1 = k then z.2.data.toList else []) ++ txL ms k := by
      unfold txL
      rw [List.filter_cons]
      by_cases h1 : z.1 = k
      · simp [h1]
      · simp [h1]
    rw [e, List.length_append, List.length_cons, Nat.succ_mul]
    split
    · omega
    · rw [List.length_nil]
      omega
structure LtM (w wr : World) (l : List UInt8) : Prop where
  sb : Sb w.heap.size w.heap.size (Lib.byteCells l) wr
  bl : Below w.heap.size w wr
set_option linter.unusedSimpArgs false in
set_option maxRecDepth 1000 in
set_option maxHeartbeats 2000000 in
theorem lineText_any (bm mo mc : Nat) (ms : List (Int × ByteArray)) (k : Int) (w : World) (hq : ms.length ≤ 1000) (hz : ∀ z, z ∈ ms → z.2.size ≤ 1000) (hm : MvsC w bm mo ms.length (mvM ms) (mvS ms)) :
    Calls Try.prog 30 #[.slice (some ⟨bm, mo, none⟩) ms.length mc, .int .i64 k] w fun e w' => e = .returned (.string ⟨(txL ms k).toArray⟩) ∧ Below w.heap.size w w' := by
  have HMV : Hid (∀ w', Below w.heap.size w w' → MvsC w' bm mo ms.length (mvM ms) (mvS ms)) := fun w' hb => hm.keep hb
  have HM0 : Hid (LtM w (w.alloc (.cells #[.pointer none, .slice none 0 0] 93)) []) := ⟨Or.inl ⟨Nat.le_refl _, .slice none 0 0, Bx.new _ _ _, ⟨rfl, Or.inl ⟨rfl, rfl⟩⟩, by simp [Value.ownBlock]⟩, below_all _ _⟩
  have HZ := Lib.hid hz
  clear hm hz
  go_enter Try.func30, Try.ntmps30
  go_wp2_with fail
  go_loopw [7, 10] (fun _ i wr => ∃ j : Nat, j ≤ ms.length ∧ i = .int .i64 j ∧ Hid (LtM w wr (txL (ms.take j) k))) (fun _ i _ => ms.length - (intOf i).toNat)
  case atStart => exact ⟨0, Nat.zero_le _, rfl, HM0⟩
  case round =>
    obtain ⟨j, hj, rfl, HM⟩ := hrel
    by_cases hlt : j < ms.length
    · have hmc := (HMV.out _ HM.out.bl) j hlt
      have e1 : mvM ms j = (ms[j]).1 := by unfold mvM; rw [List.getElem?_eq_getElem hlt]; rfl
      have e2 : mvS ms j = (ms[j]).2 := by unfold mvS; rw [List.getElem?_eq_getElem hlt]; rfl
      rw [e1, e2] at hmc
      obtain ⟨c0, c1⟩ := hmc
      clear e1 e2
      have HTK : Hid (ms.take (j + 1) = ms.take j ++ [ms[j]]) := List.take_succ_eq_append_getElem hlt
      have HZJ : Hid ((ms[j]).2.size ≤ 1000) := HZ.out _ (List.getElem_mem hlt)
      have HTL : Hid ((txL (ms.take j) k).length ≤ 1000 * 1000) := by
        have h := txL_len (k := k) (ms.take j) (fun z hz => HZ.out z (List.mem_of_mem_take hz))
        have h2 : (ms.take j).length ≤ 1000 := by simp; omega
        exact Nat.le_trans h (Nat.mul_le_mul_right _ h2)
      have HSY : Hid ((ms[j]).1 = k → txL (ms.take (j + 1)) k = txL (ms.take j) k ++ (ms[j]).2.data.toList) := fun h => by rw [HTK.out]; exact txL_snoc_yes h
      have HSN : Hid (¬ (ms[j]).1 = k → txL (ms.take (j + 1)) k = txL (ms.take j) k) := fun h => by rw [HTK.out]; exact txL_snoc_no h
      clear HTK
      revert c0 c1 HSY HSN HZJ
      generalize (ms[j]).1 = s
      generalize (ms[j]).2 = l
      intro c0 c1 HZJ HSY HSN
      have HSA : Hid (∀ o, Sb w.heap.size w.heap.size (Lib.byteCells (txL (ms.take j) k)) (wr.alloc o)) := fun o => HM.out.sb.below (below_all _ _)
      by_cases hs : s = k
      · have hsb : (s == k) = true := by simp [hs]
        have HT := Lib.hid (HSY.out hs)
        clear hs
        go_wp2_with fail
        refine (writeString_any w.heap.size w.heap.size _ l _ (HSA.out _) (by have h1 := HZJ.out; have h2 := HTL.out; simp only [Lib.byteCells_length]; omega) (by have := HM.out.bl.size; simp; omega)).mono ?_
        rintro e w2 ⟨rfl, h2, hb2⟩
        have HM2 : Hid (LtM w w2 (txL (ms.take (j + 1)) k)) := ⟨by rw [HT.out, Lib.byteCells_append]; exact .inr h2, (HM.out.bl.alloc HM.out.bl.size _).trans hb2⟩
        clear h2 hb2
        go_wp2_with fail
        go_roundw
        case rel => exact ⟨j + 1, by omega, by go_num, HM2⟩
        case measure => simp [intOf]; omega
      · have hsb : (s == k) = false := by simp [hs]
        have HT := Lib.hid (HSN.out hs)
        clear hs
        go_wp2_with fail
        go_roundw
        case rel => exact ⟨j + 1, by omega, by go_num, by rw [HT.out]; exact ⟨HSA.out _, HM.out.bl.alloc HM.out.bl.size _⟩⟩
        case measure => simp [intOf]; omega
    · obtain e : j = ms.length := by omega
      subst e
      have HS : Hid (Sb w.heap.size w.heap.size (Lib.byteCells (txL ms k)) wr) := by have h := HM.out.sb; rwa [List.take_length] at h
      go_wp2_with fail
      refine (string_any w.heap.size _ _ _ HS.out HM.out.bl.size).mono ?_
      rintro e w3 ⟨rfl, hb⟩
      have HB3 := Lib.hid (HM.out.bl.trans hb)
      clear hb
      go_wp2_with fail
      go_ret
      exact ⟨rfl, HB3.out⟩
theorem blockCycle_any (n : Nat) (w : World) (hn : n ≤ 5) :
    Calls Try.prog 29 #[.int .i64 n] w fun e w' => e = .returned (.tuple #[.string ⟨(Lib.repeatL [111, 97, 101, 108, 102] n).toArray⟩, .bool true]) ∧ Below w.heap.size w w' := by
  have HR := Lib.hid (Try.strings_Repeat ⟨#[111, 97, 101, 108, 102]⟩ n w (by omega) (by show 5 * n ≤ _; omega))
  go_enter Try.func29, Try.ntmps29
  go_wp2_with fail
  refine HR.out.mono ?_
  rintro e w1 ⟨rfl, hb⟩
  have HB := Lib.hid hb
  clear hb
  go_wp2_with fail
  go_ret2
  exact ⟨rfl, HB.out⟩
end Go.Proofs.Ytbachpfgakjncaa
namespace Go.Proofs.Ytbachpfgakjncaa
open Go.RowKit

/-- the letters that a section in a state still gets, so many trains not yet through; with fuel -/
def cyF : Nat → Nat → Nat → List UInt8
  | 0, _, _ => []
  | f + 1, 0, t => if t = 0 then [] else 111 :: cyF f 1 t
  | f + 1, 1, t => if t = 0 then 114 :: cyF f 0 0 else 97 :: cyF f 2 t
  | f + 1, 2, t => if t = 0 then 99 :: cyF f 0 0 else 101 :: cyF f 3 (t - 1)
  | f + 1, 3, t => 108 :: cyF f 4 t
  | f + 1, _ + 4, t => 102 :: cyF f 0 t
theorem tk_other {x : Ln} {k : Nat} {l : ByteArray} (ho : mvOk x k l = true) (q : Nat) (hq : q ≠ k) : tk (mvTo x k l) q = tk x q := by
  obtain ⟨k', e, _, _, hkind⟩ := mv_kind ho
  obtain rfl : k = k' := by omega
  rcases hkind with ⟨hT, _⟩ | ⟨i, hi, hp, _, hT, _⟩ | ⟨i, hi, hp, _, hT, _⟩
  · unfold tk; rw [hT]; rfl
  · have h := tk_mv hi hp hT q
    rw [if_neg (by omega)] at h
    omega
  · have h := tk_mv hi hp hT q
    rw [if_neg (by omega)] at h
    omega
theorem txL_cons {z : Int × ByteArray} {ms : List (Int × ByteArray)} {k : Int} : txL (z :: ms) k = (if z.1 = k then z.2.data.toList else []) ++ txL ms k := by
  unfold txL
  rw [List.filter_cons]
  by_cases h1 : z.1 = k
  · simp [h1]
  · simp [h1]
theorem cy_step {s J t t' : Nat} {c : UInt8} (hJ : nx s c.toNat = J) (hJ5 : J < 5) (ht : t' = t ∧ ¬ (s = 2 ∧ J = 3) ∨ t' + 1 = t ∧ s = 2 ∧ J = 3) (hl : lefK J t' + 1 = lefK s t) :
    cyF (lefK s t).toNat s t = c :: cyF (lefK J t').toNat J t' := by
  have hc : ∀ d : UInt8, ((c.toNat : Nat) : Int) = (d.toNat : Int) → c = d := fun d h => UInt8.toNat_inj.1 (by omega)
  have h5 : nx s c.toNat < 5 := by omega
  have hp := lefK_pos J t'
  have e : (lefK s t).toNat = (lefK J t').toNat + 1 := by omega
  rw [e]
  rcases nx_cases h5 with ⟨a, b, d⟩ | ⟨a, b, d⟩ | ⟨a, b, d⟩ | ⟨a, b, d⟩ | ⟨a, b, d⟩ | ⟨a, b, d⟩ | ⟨a, b, d⟩
  all_goals
    rw [d] at hJ
    subst hJ
    subst a
    simp only [lefK] at hl
  · obtain rfl := hc 111 b
    obtain rfl : t' = t := by omega
    show (if t' = 0 then [] else _) = _
    rw [if_neg (by split at hl <;> omega)]
  · obtain rfl := hc 114 b
    obtain rfl : t' = t := by omega
    obtain rfl : t' = 0 := by split at hl <;> omega
    rfl
  · obtain rfl := hc 97 b
    obtain rfl : t' = t := by omega
    show (if t' = 0 then _ else _) = _
    rw [if_neg (by split at hl <;> (try split at hl) <;> omega)]
  · obtain rfl := hc 99 b
    obtain rfl : t' = t := by omega
    obtain rfl : t' = 0 := by split at hl <;> omega
    rfl
  · obtain rfl := hc 101 b
    obtain rfl : t = t' + 1 := by omega
    show (if t' + 1 = 0 then _ else _) = _
    rw [if_neg (by omega)]
    rfl
  · obtain rfl := hc 108 b
    obtain rfl : t' = t := by omega
    rfl
  · obtain rfl := hc 102 b
    obtain rfl : t' = t := by omega
    rfl
theorem fin_text : ∀ (q : Nat) (x : Ln), vldL x = true → lefS x x.n = q → ∀ k : Nat, k < x.n → txL (finX x) k = cyF (lefK (sk x k) (tk x k)).toNat (sk x k) (tk x k)
  | 0, x, hv, h, k, hk => by
    have e : finX x = [] := finX_done (by omega)
    have hz := lefT_zero x.n (by rw [← lefS_T hv x.n (Nat.le_refl _)]; exact h) k hk
    rw [e, hz]
    rfl
  | q + 1, x, hv, h, k, hk => by
    obtain ⟨z, hz, _⟩ := nearM_some hv (by omega)
    obtain ⟨h1, h2, h3⟩ := near_step hv hz
    have ih := fin_text q (mvTo x z.1 z.2) h2 (by omega) k hk
    have e : finX x = z :: finX (mvTo x z.1 z.2) := finX_step (by omega) hz
    have ho := (near_less hz).1
    obtain ⟨s, l⟩ := z
    obtain ⟨kz, c, es, hkz, rfl, hJ, hJ5, _⟩ := mv_is ho
    obtain rfl : s = kz := es
    replace ho : mvOk x kz (chr c) = true := ho
    replace hJ : mvJ x kz (chr c) = nx (sk x kz) c.toNat := hJ
    replace hJ5 : mvJ x kz (chr c) < 5 := hJ5
    replace ih : txL (finX (mvTo x kz (chr c))) k = cyF (lefK (sk (mvTo x kz (chr c)) k) (tk (mvTo x kz (chr c)) k)).toNat (sk (mvTo x kz (chr c)) k) (tk (mvTo x kz (chr c)) k) := ih
    replace h3 : lefS (mvTo x kz (chr c)) x.n + 1 = lefS x x.n := h3
    rw [e, txL_cons]
    show (if (kz : Int) = (k : Int) then (chr c).data.toList else []) ++ txL (finX (mvTo x kz (chr c))) k = _
    rw [ih, sk_mv hJ5]
    by_cases hkk : k = kz
    · subst hkk
      rw [if_pos rfl, if_pos rfl]
      obtain ⟨g1, g2⟩ := lefT_mv ho hk
      have e1 := lefS_T hv x.n (Nat.le_refl _)
      have e2 : lefS (mvTo x k (chr c)) x.n = lefT (mvTo x k (chr c)) x.n := lefS_T (vld_mv hv ho) x.n (Nat.le_refl _)
      rw [hJ] at g1 g2 ⊢
      exact (cy_step rfl (by omega) g2 (by omega)).symm
    · rw [if_neg hkk, if_neg (by omega), tk_other ho k hkk]
      rfl
theorem cy_rep : ∀ t : Nat, cyF (5 * t) 0 t = Lib.repeatL [111, 97, 101, 108, 102] t
  | 0 => rfl
  | t + 1 => by
    have ih := cy_rep t
    have e : cyF (5 * t + 1 + 1 + 1 + 1 + 1) 0 (t + 1) = 111 :: 97 :: 101 :: 108 :: 102 :: cyF (5 * t) 0 t := by
      simp [cyF]
    rw [show 5 * (t + 1) = 5 * t + 1 + 1 + 1 + 1 + 1 by omega, e, ih]
    rfl
theorem leA_all {f : Nat → Int} {p : Int} : ∀ m, (∀ i, f i ≤ p) → leA f p m = m
  | 0, _ => rfl
  | m + 1, h => by
    simp only [leA]
    rw [leA_all m h, if_pos (h m)]
theorem new_text {n m : Nat} (h1 : 1 ≤ n) (h2 : n ≤ 5) (h3 : m ≤ 5) {k : Nat} (hk : k < n) : txL (fnL (newL n m)) k = Lib.repeatL [111, 97, 101, 108, 102] m := by
  have hv := newL_vld h1 h2 h3
  obtain ⟨q, hq⟩ := lefS_nn (newL n m)
  rw [show fnL (newL n m) = finX (newL n m) from if_pos hv, fin_text q _ hv hq k hk]
  have e1 : sk (newL n m) k = 0 := nrm_sk rfl
  have e2 : tk (newL n m) k = m := leA_all m (fun i => by show (0 : Int) ≤ 2 * (k : Int); omega)
  rw [e1, e2]
  have e3 : (lefK 0 m).toNat = 5 * m := by simp only [lefK]; omega
  rw [e3]
  exact cy_rep m
end Go.Proofs.Ytbachpfgakjncaa
