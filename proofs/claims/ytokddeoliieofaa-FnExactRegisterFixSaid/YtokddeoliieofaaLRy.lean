/-
  The walk of the exact law of RegisterFix.
-/
import Derived.Test.YtokddeoliieofaaFg
import Derived.Test.YtokddeoliieofaaLRt
namespace Go.Proofs.Ytokddeoliieofaa
open Go.RowKit

theorem fixN_len (ns : List (Int × ByteArray)) : (fixN ns).length ≤ 210 := by
  unfold fixN
  split
  · rw [fxN_len]; exact repL_len _
  · simp
theorem fixI_len (ns : List (Int × ByteArray)) : (fixI ns).length ≤ 210 := by
  unfold fixI
  split
  · rw [fxI_len]; exact repL_len _
  · simp
theorem own_fixS {w : World} {g cap q : Nat} {M : Nat → Int} {L : Nat → ByteArray} (h : Own w g cap q 2 61 (mvF M L)) (hq : q ≤ 1000000000) :
    Calls Try.prog 49 #[.slice (some ⟨g, 0, none⟩) q cap] w (FxR (fixN (nsO q M L)) (fixI (nsO q M L)) w) := by
  have h2 := specFix_any g 0 cap (nsO q M L) w (by rw [nsO_len]; omega) (NtC.of_own h)
  rw [nsO_len] at h2
  exact h2
theorem own_fix {w : World} {g cap q : Nat} {M : Nat → Int} {L : Nat → ByteArray} (h : Own w g cap q 2 61 (mvF M L)) (hq : q ≤ 1000000000) :
    Calls Try.prog 50 #[.slice (some ⟨g, 0, none⟩) q cap] w (FxR (fixN (nsO q M L)) (fixI (nsO q M L)) w) := by
  have h2 := fix_any g 0 cap (nsO q M L) w (by rw [nsO_len]; omega) (NtC.of_own h)
  rw [nsO_len] at h2
  exact h2
theorem eqN_same {w : World} {g c g' c' : Nat} {ns : List (Int × ByteArray)} (hl : ns.length ≤ 1000) (h1 : OwnN w g c ns) (h2 : OwnN w g' c' ns) :
    Calls Try.prog 23 #[.slice (some ⟨g, 0, none⟩) ns.length c, .slice (some ⟨g', 0, none⟩) ns.length c'] w fun e w' => e = .returned (.bool true) ∧ Below w.heap.size w w' :=
  eqNoteS_ML _ _ ns.length (nM ns) (nL ns) w (by omega) (.inl ⟨g, 0, c, rfl, MvsC.of_own h1⟩) (.inl ⟨g', 0, c', rfl, MvsC.of_own h2⟩)
set_option linter.unusedSimpArgs false in
set_option maxRecDepth 100000 in
set_option maxHeartbeats 4000000 in
theorem lawXFix (v : Value) (q : Nat) (M : Nat → Int) (L : Nat → ByteArray) (w : World) (hq : q ≤ 9223372036854775807) (hs : ∀ k, k < q → (L k).size ≤ 9223372036854775807) (hv : MLs w v q M L) :
    Calls Try.prog 9 #[v] w fun e w' => e = .returned (.bool true) ∧ Below w.heap.size w w' := by
  have HV : Hid (∀ w', Below w.heap.size w w' → MLs w' v q M L) := fun w' hb => hv.keep hb
  have HSZ := Lib.hid (szNoteS_any v q M L 1048576 w (by omega) hq hs hv)
  obtain ⟨ao, c, rfl⟩ := hv.shape
  have HB : Hid (Below w.heap.size w w) := Below.refl _ _
  clear hv hs
  go_enter Try.func9, Try.ntmps9
  go_wp2_with fail
  refine HSZ.out.mono ?_
  rintro e w1 ⟨⟨r, rfl, hr⟩, hb1⟩
  have hb9 := hb1
  (try replace T3 := Lib.hid (Own.below T3.out hb9 (Own.lt T3.out)))
  (try replace U3 := Lib.hid (Own.below U3.out hb9 (Own.lt U3.out)))
  (try replace X4 := Lib.hid (Own.below X4.out hb9 (Own.lt X4.out)))
  (try replace T5 := Lib.hid (Own.below T5.out hb9 (Own.lt T5.out)))
  (try replace U5 := Lib.hid (Own.below U5.out hb9 (Own.lt U5.out)))
  (try replace T9 := Lib.hid (Own.below T9.out hb9 (Own.lt T9.out)))
  replace HB := Lib.hid (HB.out.trans (Below.mono hb9 HB.out.size))
  clear hb9
  clear hb1
  rcases hr with rfl | ⟨hr0, hr1, hr2⟩
  · go_wp2_with fail
    go_ret
    exact ⟨rfl, HB.out⟩
  have hqb : q ≤ 1048576 := by omega
  have HTN : Hid (∀ W, Below w.heap.size w W → Calls Try.prog 20 #[.slice ao q c] W fun e w' => ∃ g c', e = .returned (.slice (some ⟨g, 0, none⟩) q c') ∧ W.heap.size ≤ g ∧ Own w' g c' q 2 61 (mvF M L) ∧ Below W.heap.size W w') := fun W hW => toNoteS_ML _ q M L W (by omega) (HV.out W hW)
  have HFS : Hid (∀ W g cap, Own W g cap q 2 61 (mvF M L) → Calls Try.prog 49 #[.slice (some ⟨g, 0, none⟩) q cap] W (FxR (fixN (nsO q M L)) (fixI (nsO q M L)) W)) := fun W g cap h => own_fixS h (by omega)
  have HFI : Hid (∀ W g cap, Own W g cap q 2 61 (mvF M L) → Calls Try.prog 50 #[.slice (some ⟨g, 0, none⟩) q cap] W (FxR (fixN (nsO q M L)) (fixI (nsO q M L)) W)) := fun W g cap h => own_fix h (by omega)
  have hr3 : ¬ r < 0 := by omega
  have hnl := fixN_len (nsO q M L)
  have hil := fixI_len (nsO q M L)
  generalize fixN (nsO q M L) = xs at *
  generalize fixI (nsO q M L) = js at *
  go_wp2_with fail
  -- the reference's answer
  refine (HTN.out _ HB.out).mono ?_
  rintro e w2 ⟨g2, c2, rfl, hg2, ho2, hb2⟩
  have HS := Lib.hid (HFS.out _ _ _ ho2)
  have hb9 := hb2
  (try replace T3 := Lib.hid (Own.below T3.out hb9 (Own.lt T3.out)))
  (try replace U3 := Lib.hid (Own.below U3.out hb9 (Own.lt U3.out)))
  (try replace X4 := Lib.hid (Own.below X4.out hb9 (Own.lt X4.out)))
  (try replace T5 := Lib.hid (Own.below T5.out hb9 (Own.lt T5.out)))
  (try replace U5 := Lib.hid (Own.below U5.out hb9 (Own.lt U5.out)))
  (try replace T9 := Lib.hid (Own.below T9.out hb9 (Own.lt T9.out)))
  replace HB := Lib.hid (HB.out.trans (Below.mono hb9 HB.out.size))
  clear hb9
  clear hb2 ho2
  go_wp2_with fail
  refine HS.out.mono ?_
  rintro e w3 ⟨⟨g3, c3, k3, d3, rfl, ho3, hi3, hg3, hk3, _⟩, hb3⟩
  have T3 : Hid (OwnN w3 g3 c3 xs) := ho3
  have U3 : Hid (OwnI w3 k3 d3 js) := hi3
  have hz3 : g3 < w3.heap.size := Own.lt ho3
  have hy3 : k3 < w3.heap.size := Own.lt hi3
  have hz23 : w.heap.size ≤ w2.heap.size := HB.out.size
  replace HB := Lib.hid (HB.out.trans (hb3.mono HB.out.size))
  clear hb3 ho3 hi3 HS
  go_wp2_with fail
  -- the argument
  refine (HTN.out _ HB.out).mono ?_
  rintro e w4 ⟨g4, c4, rfl, hg4, ho4, hb4⟩
  have hb9 := hb4
  (try replace T3 := Lib.hid (Own.below T3.out hb9 (Own.lt T3.out)))
  (try replace U3 := Lib.hid (Own.below U3.out hb9 (Own.lt U3.out)))
  (try replace X4 := Lib.hid (Own.below X4.out hb9 (Own.lt X4.out)))
  (try replace T5 := Lib.hid (Own.below T5.out hb9 (Own.lt T5.out)))
  (try replace U5 := Lib.hid (Own.below U5.out hb9 (Own.lt U5.out)))
  (try replace T9 := Lib.hid (Own.below T9.out hb9 (Own.lt T9.out)))
  replace HB := Lib.hid (HB.out.trans (Below.mono hb9 HB.out.size))
  clear hb9
  have X4 := Lib.hid ho4
  have hz4 : g4 < w4.heap.size := ho4.lt
  have HS := Lib.hid (HFI.out _ _ _ ho4)
  clear hb4 ho4
  go_wp2_with fail
  refine HS.out.mono ?_
  rintro e w5 ⟨⟨g5, c5, k5, d5, rfl, ho5, hi5, hg5, hk5, hne5⟩, hb5⟩
  have hb9 := hb5
  (try replace T3 := Lib.hid (Own.below T3.out hb9 (Own.lt T3.out)))
  (try replace U3 := Lib.hid (Own.below U3.out hb9 (Own.lt U3.out)))
  (try replace X4 := Lib.hid (Own.below X4.out hb9 (Own.lt X4.out)))
  (try replace T5 := Lib.hid (Own.below T5.out hb9 (Own.lt T5.out)))
  (try replace U5 := Lib.hid (Own.below U5.out hb9 (Own.lt U5.out)))
  (try replace T9 := Lib.hid (Own.below T9.out hb9 (Own.lt T9.out)))
  replace HB := Lib.hid (HB.out.trans (Below.mono hb9 HB.out.size))
  clear hb9
  have T5 : Hid (OwnN w5 g5 c5 xs) := ho5
  have U5 : Hid (OwnI w5 k5 d5 js) := hi5
  have hz5 : g5 < w5.heap.size := Own.lt ho5
  have hy5 : k5 < w5.heap.size := Own.lt hi5
  clear hb5 ho5 hi5 HS
  have HEN : Hid (∀ W g c, OwnN W g c xs → OwnN W g3 c3 xs → Calls Try.prog 23 #[.slice (some ⟨g, 0, none⟩) xs.length c, .slice (some ⟨g3, 0, none⟩) xs.length c3] W fun e w' => e = .returned (.bool true) ∧ Below W.heap.size W w') := fun W g c h1 h2 => eqN_same (by omega) h1 h2
  have HEI : Hid (∀ W g c, OwnI W g c js → OwnI W k3 d3 js → Calls Try.prog 22 #[.slice (some ⟨g, 0, none⟩) js.length c, .slice (some ⟨k3, 0, none⟩) js.length d3] W fun e w' => e = .returned (.bool true) ∧ Below W.heap.size W w') := fun W g c h1 h2 => eqI_same (by omega) (OwnI.reads h1) (OwnI.reads h2)
  go_wp2_with fail
  -- alike
  refine (HEN.out _ _ _ T5.out T3.out).mono ?_
  rintro e w6 ⟨rfl, hb6⟩
  have hb9 := hb6
  (try replace T3 := Lib.hid (Own.below T3.out hb9 (Own.lt T3.out)))
  (try replace U3 := Lib.hid (Own.below U3.out hb9 (Own.lt U3.out)))
  (try replace X4 := Lib.hid (Own.below X4.out hb9 (Own.lt X4.out)))
  (try replace T5 := Lib.hid (Own.below T5.out hb9 (Own.lt T5.out)))
  (try replace U5 := Lib.hid (Own.below U5.out hb9 (Own.lt U5.out)))
  (try replace T9 := Lib.hid (Own.below T9.out hb9 (Own.lt T9.out)))
  replace HB := Lib.hid (HB.out.trans (Below.mono hb9 HB.out.size))
  clear hb9
  have hz6 : w5.heap.size ≤ w6.heap.size := hb6.size
  clear hb6
  go_wp2_with fail
  refine (HEI.out _ _ _ U5.out U3.out).mono ?_
  rintro e w6b ⟨rfl, hb6⟩
  have hb9 := hb6
  (try replace T3 := Lib.hid (Own.below T3.out hb9 (Own.lt T3.out)))
  (try replace U3 := Lib.hid (Own.below U3.out hb9 (Own.lt U3.out)))
  (try replace X4 := Lib.hid (Own.below X4.out hb9 (Own.lt X4.out)))
  (try replace T5 := Lib.hid (Own.below T5.out hb9 (Own.lt T5.out)))
  (try replace U5 := Lib.hid (Own.below U5.out hb9 (Own.lt U5.out)))
  (try replace T9 := Lib.hid (Own.below T9.out hb9 (Own.lt T9.out)))
  replace HB := Lib.hid (HB.out.trans (Below.mono hb9 HB.out.size))
  clear hb9
  clear hb6
  go_wp2_with fail
  refine (HTN.out _ HB.out).mono ?_
  rintro e w7 ⟨g7, c7, rfl, hg7, ho7, hb7⟩
  have hb9 := hb7
  (try replace T3 := Lib.hid (Own.below T3.out hb9 (Own.lt T3.out)))
  (try replace U3 := Lib.hid (Own.below U3.out hb9 (Own.lt U3.out)))
  (try replace X4 := Lib.hid (Own.below X4.out hb9 (Own.lt X4.out)))
  (try replace T5 := Lib.hid (Own.below T5.out hb9 (Own.lt T5.out)))
  (try replace U5 := Lib.hid (Own.below U5.out hb9 (Own.lt U5.out)))
  (try replace T9 := Lib.hid (Own.below T9.out hb9 (Own.lt T9.out)))
  replace HB := Lib.hid (HB.out.trans (Below.mono hb9 HB.out.size))
  clear hb9
  clear hb7
  have HEQ := Lib.hid (eqNoteS_ML (.slice (some ⟨g4, 0, none⟩) q c4) (.slice (some ⟨g7, 0, none⟩) q c7) q M L w7 (by omega) (.inl ⟨g4, 0, c4, rfl, MvsC.of_own X4.out⟩) (.inl ⟨g7, 0, c7, rfl, MvsC.of_own ho7⟩))
  clear ho7
  go_wp2_with fail
  refine HEQ.out.mono ?_
  rintro e w8 ⟨rfl, hb8⟩
  have hb9 := hb8
  (try replace T3 := Lib.hid (Own.below T3.out hb9 (Own.lt T3.out)))
  (try replace U3 := Lib.hid (Own.below U3.out hb9 (Own.lt U3.out)))
  (try replace X4 := Lib.hid (Own.below X4.out hb9 (Own.lt X4.out)))
  (try replace T5 := Lib.hid (Own.below T5.out hb9 (Own.lt T5.out)))
  (try replace U5 := Lib.hid (Own.below U5.out hb9 (Own.lt U5.out)))
  (try replace T9 := Lib.hid (Own.below T9.out hb9 (Own.lt T9.out)))
  replace HB := Lib.hid (HB.out.trans (Below.mono hb9 HB.out.size))
  clear hb9
  clear hb8 HEQ
  have HMK := Lib.hid (markNoteS_any g4 c4 q M L 1 w8 (by omega) (by omega) X4.out)
  go_wp2_with fail
  -- marks on the argument
  refine HMK.out.mono ?_
  rintro e w9 ⟨rfl, _, hg⟩
  replace T3 := Lib.hid (Own.kept T3.out hg (by simp; omega))
  replace U3 := Lib.hid (Own.kept U3.out hg (by simp; omega))
  replace T5 := Lib.hid (Own.kept T5.out hg (by simp; omega))
  replace U5 := Lib.hid (Own.kept U5.out hg (by simp; omega))
  replace HB := Lib.hid (below_grown HB.out hg (fun c e => by simp at e; omega) (Nat.le_refl _))
  clear hg HMK X4
  have hk1 : ¬ (((1 : Nat) : Int) + 2 * (q : Int)) < 0 := by omega
  have hk2 : ¬ ((1 : Int) + 2 * (q : Int)) < 0 := by omega
  go_wp2_with fail
  refine (HEN.out _ _ _ T5.out T3.out).mono ?_
  rintro e w10 ⟨rfl, hb10⟩
  have hb9 := hb10
  (try replace T3 := Lib.hid (Own.below T3.out hb9 (Own.lt T3.out)))
  (try replace U3 := Lib.hid (Own.below U3.out hb9 (Own.lt U3.out)))
  (try replace X4 := Lib.hid (Own.below X4.out hb9 (Own.lt X4.out)))
  (try replace T5 := Lib.hid (Own.below T5.out hb9 (Own.lt T5.out)))
  (try replace U5 := Lib.hid (Own.below U5.out hb9 (Own.lt U5.out)))
  (try replace T9 := Lib.hid (Own.below T9.out hb9 (Own.lt T9.out)))
  replace HB := Lib.hid (HB.out.trans (Below.mono hb9 HB.out.size))
  clear hb9
  clear hb10
  go_wp2_with fail
  refine (HEI.out _ _ _ U5.out U3.out).mono ?_
  rintro e w10b ⟨rfl, hb10⟩
  have hb9 := hb10
  (try replace T3 := Lib.hid (Own.below T3.out hb9 (Own.lt T3.out)))
  (try replace U3 := Lib.hid (Own.below U3.out hb9 (Own.lt U3.out)))
  (try replace X4 := Lib.hid (Own.below X4.out hb9 (Own.lt X4.out)))
  (try replace T5 := Lib.hid (Own.below T5.out hb9 (Own.lt T5.out)))
  (try replace U5 := Lib.hid (Own.below U5.out hb9 (Own.lt U5.out)))
  (try replace T9 := Lib.hid (Own.below T9.out hb9 (Own.lt T9.out)))
  replace HB := Lib.hid (HB.out.trans (Below.mono hb9 HB.out.size))
  clear hb9
  clear hb10
  have HMN := Lib.hid (markNoteS_any g5 c5 xs.length (nM xs) (nL xs) 1 w10b (by omega) (by omega) T5.out)
  go_wp2_with fail
  -- marks on the answer
  refine HMN.out.mono ?_
  rintro e w11 ⟨rfl, hmk, hg⟩
  have HK : Hid (∀ W, Own W g5 c5 xs.length 2 61 (mvF (mkMM 1) (mkMS 1)) → Calls Try.prog 51 #[.slice (some ⟨g5, 0, none⟩) xs.length c5, .int .i64 1] W fun e w' => e = .returned (.int .i64 (1 + 2 * (xs.length : Int))) ∧ Below W.heap.size W w') := fun W h => heldM_row _ xs.length (some g5) 1 W (by omega) (by omega) (.inl ⟨g5, c5, rfl, rfl, h⟩)
  replace T3 := Lib.hid (Own.kept T3.out hg (by simp; omega))
  replace U3 := Lib.hid (Own.kept U3.out hg (by simp; omega))
  replace U5 := Lib.hid (Own.kept U5.out hg (by simp; omega))
  replace HB := Lib.hid (below_grown HB.out hg (fun c e => by simp at e; omega) (Nat.le_refl _))
  clear T5
  have T5 : Hid (Own w11 g5 c5 xs.length 2 61 (mvF (mkMM 1) (mkMS 1))) := hmk
  clear hmk hg HMN
  have HMI := Lib.hid (markIntS_any k5 d5 js.length (iF js) (1 + 2 * (xs.length : Int)) w11 (by omega) (by omega) (by omega) U5.out)
  go_wp2_with fail
  refine HMI.out.mono ?_
  rintro e w12 ⟨rfl, hmk, hg⟩
  have HKI : Hid (∀ W, Own W k5 d5 js.length 1 3 (fun i => .int .i64 (1 + 2 * (xs.length : Int) + i)) → Calls Try.prog 26 #[.slice (some ⟨k5, 0, none⟩) js.length d5, .int .i64 (1 + 2 * (xs.length : Int))] W fun e w' => e = .returned (.int .i64 (1 + 2 * (xs.length : Int) + js.length)) ∧ W = w') := fun W h => heldI_row _ js.length (some k5) (1 + 2 * (xs.length : Int)) W (by omega) (by omega) (by omega) (.inl ⟨k5, d5, rfl, rfl, h⟩)
  replace T3 := Lib.hid (Own.kept T3.out hg (by simp; omega))
  replace U3 := Lib.hid (Own.kept U3.out hg (by simp; omega))
  replace T5 := Lib.hid (Own.kept T5.out hg (by simp; omega))
  replace HB := Lib.hid (below_grown HB.out hg (fun c e => by simp at e; omega) (Nat.le_refl _))
  clear U5
  have U5 : Hid (Own w12 k5 d5 js.length 1 3 (fun i => .int .i64 (1 + 2 * (xs.length : Int) + i))) := hmk
  clear hmk hg HMI
  have hk3 : ¬ ((1 : Int) + 2 * (xs.length : Int)) < 0 := by omega
  have hk4 : ¬ ((1 : Int) + 2 * (xs.length : Int) + (js.length : Int)) < 0 := by omega
  go_wp2_with fail
  refine (HK.out _ T5.out).mono ?_
  rintro e w13 ⟨rfl, hb13⟩
  have hb9 := hb13
  (try replace T3 := Lib.hid (Own.below T3.out hb9 (Own.lt T3.out)))
  (try replace U3 := Lib.hid (Own.below U3.out hb9 (Own.lt U3.out)))
  (try replace X4 := Lib.hid (Own.below X4.out hb9 (Own.lt X4.out)))
  (try replace T5 := Lib.hid (Own.below T5.out hb9 (Own.lt T5.out)))
  (try replace U5 := Lib.hid (Own.below U5.out hb9 (Own.lt U5.out)))
  (try replace T9 := Lib.hid (Own.below T9.out hb9 (Own.lt T9.out)))
  replace HB := Lib.hid (HB.out.trans (Below.mono hb9 HB.out.size))
  clear hb9
  clear hb13
  go_wp2_with fail
  refine (HKI.out _ U5.out).mono ?_
  rintro e w' ⟨rfl, rfl⟩
  go_wp2_with fail
  -- another call
  refine (HTN.out _ HB.out).mono ?_
  rintro e w14 ⟨g12, c12, rfl, hg12, ho12, hb12⟩
  have hb9 := hb12
  (try replace T3 := Lib.hid (Own.below T3.out hb9 (Own.lt T3.out)))
  (try replace U3 := Lib.hid (Own.below U3.out hb9 (Own.lt U3.out)))
  (try replace X4 := Lib.hid (Own.below X4.out hb9 (Own.lt X4.out)))
  (try replace T5 := Lib.hid (Own.below T5.out hb9 (Own.lt T5.out)))
  (try replace U5 := Lib.hid (Own.below U5.out hb9 (Own.lt U5.out)))
  (try replace T9 := Lib.hid (Own.below T9.out hb9 (Own.lt T9.out)))
  replace HB := Lib.hid (HB.out.trans (Below.mono hb9 HB.out.size))
  clear hb9
  have HS := Lib.hid (HFI.out _ _ _ ho12)
  clear hb12 ho12
  go_wp2_with fail
  refine HS.out.mono ?_
  rintro e w15 ⟨⟨g13, c13, k13, d13, rfl, ho13, hi13, _, _, _⟩, hb13⟩
  have hb9 := hb13
  (try replace T3 := Lib.hid (Own.below T3.out hb9 (Own.lt T3.out)))
  (try replace U3 := Lib.hid (Own.below U3.out hb9 (Own.lt U3.out)))
  (try replace X4 := Lib.hid (Own.below X4.out hb9 (Own.lt X4.out)))
  (try replace T5 := Lib.hid (Own.below T5.out hb9 (Own.lt T5.out)))
  (try replace U5 := Lib.hid (Own.below U5.out hb9 (Own.lt U5.out)))
  (try replace T9 := Lib.hid (Own.below T9.out hb9 (Own.lt T9.out)))
  replace HB := Lib.hid (HB.out.trans (Below.mono hb9 HB.out.size))
  clear hb9
  have T9 : Hid (OwnN w15 g13 c13 xs) := ho13
  have U9 : Hid (OwnI w15 k13 d13 js) := hi13
  clear hb13 ho13 hi13 HS
  go_wp2_with fail
  refine (HEN.out _ _ _ T9.out T3.out).mono ?_
  rintro e w16 ⟨rfl, hb14⟩
  have hb9 := hb14
  (try replace T3 := Lib.hid (Own.below T3.out hb9 (Own.lt T3.out)))
  (try replace U3 := Lib.hid (Own.below U3.out hb9 (Own.lt U3.out)))
  (try replace X4 := Lib.hid (Own.below X4.out hb9 (Own.lt X4.out)))
  (try replace T5 := Lib.hid (Own.below T5.out hb9 (Own.lt T5.out)))
  (try replace U5 := Lib.hid (Own.below U5.out hb9 (Own.lt U5.out)))
  (try replace T9 := Lib.hid (Own.below T9.out hb9 (Own.lt T9.out)))
  replace HB := Lib.hid (HB.out.trans (Below.mono hb9 HB.out.size))
  clear hb9
  replace U9 := Lib.hid (Own.below U9.out hb14 (Own.lt U9.out))
  clear hb14
  go_wp2_with fail
  refine (HEI.out _ _ _ U9.out U3.out).mono ?_
  rintro e w17 ⟨rfl, hb14⟩
  have hb9 := hb14
  (try replace T3 := Lib.hid (Own.below T3.out hb9 (Own.lt T3.out)))
  (try replace U3 := Lib.hid (Own.below U3.out hb9 (Own.lt U3.out)))
  (try replace X4 := Lib.hid (Own.below X4.out hb9 (Own.lt X4.out)))
  (try replace T5 := Lib.hid (Own.below T5.out hb9 (Own.lt T5.out)))
  (try replace U5 := Lib.hid (Own.below U5.out hb9 (Own.lt U5.out)))
  (try replace T9 := Lib.hid (Own.below T9.out hb9 (Own.lt T9.out)))
  replace HB := Lib.hid (HB.out.trans (Below.mono hb9 HB.out.size))
  clear hb9
  clear hb14
  go_wp2_with fail
  refine (HK.out _ T5.out).mono ?_
  rintro e w18 ⟨rfl, hb18⟩
  have hb9 := hb18
  (try replace T3 := Lib.hid (Own.below T3.out hb9 (Own.lt T3.out)))
  (try replace U3 := Lib.hid (Own.below U3.out hb9 (Own.lt U3.out)))
  (try replace X4 := Lib.hid (Own.below X4.out hb9 (Own.lt X4.out)))
  (try replace T5 := Lib.hid (Own.below T5.out hb9 (Own.lt T5.out)))
  (try replace U5 := Lib.hid (Own.below U5.out hb9 (Own.lt U5.out)))
  (try replace T9 := Lib.hid (Own.below T9.out hb9 (Own.lt T9.out)))
  replace HB := Lib.hid (HB.out.trans (Below.mono hb9 HB.out.size))
  clear hb9
  clear hb18
  go_wp2_with fail
  refine (HKI.out _ U5.out).mono ?_
  rintro e w' ⟨rfl, rfl⟩
  go_wp2_with fail
  go_ret
  exact ⟨rfl, HB.out⟩
end Go.Proofs.Ytokddeoliieofaa
