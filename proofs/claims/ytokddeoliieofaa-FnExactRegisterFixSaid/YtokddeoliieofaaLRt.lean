/-
  The walk of the exact law of RegisterTrains.
-/
import Derived.Test.YtokddeoliieofaaKh
import Derived.Test.YtokddeoliieofaaKn
namespace Go.Proofs.Ytokddeoliieofaa
open Go.RowKit

/-- the list of a row of notes -/
def nsO (q : Nat) (M : Nat → Int) (L : Nat → ByteArray) : List (Int × ByteArray) := (List.range q).map fun k => (M k, L k)
theorem nsO_len (q : Nat) (M : Nat → Int) (L : Nat → ByteArray) : (nsO q M L).length = q := by simp [nsO]
theorem nsO_at {q : Nat} {M : Nat → Int} {L : Nat → ByteArray} {k : Nat} (h : k < q) : nM (nsO q M L) k = M k ∧ nL (nsO q M L) k = L k := by
  have e : (nsO q M L)[k]? = some (M k, L k) := by simp [nsO, h]
  unfold nM nL
  rw [e]
  exact ⟨rfl, rfl⟩
theorem NtC.of_own {w : World} {g cap q : Nat} {M : Nat → Int} {L : Nat → ByteArray} {t : TypeId} (h : Own w g cap q 2 t (mvF M L)) : NtC w g 0 (nsO q M L) := fun k hk => by
  rw [nsO_len] at hk
  rw [(nsO_at hk).1, (nsO_at hk).2]
  exact (MvsC.of_own h) k hk
theorem OwnI.reads {w : World} {g cap : Nat} {l : List Int} (h : OwnI w g cap l) : SL w (.slice (some ⟨g, 0, none⟩) l.length cap) l.length (iF l) := .inl ⟨g, 0, cap, rfl, IC.of_own h⟩
theorem trL_len (ns : List (Int × ByteArray)) : (trL ns).length ≤ 30 := by
  unfold trL
  split
  · rename_i h
    have h1 := trI_len ns ns.length
    have h2 := (rgV_true.1 (sdV_rg h)).1
    omega
  · simp
theorem own_trS {w : World} {g cap q : Nat} {M : Nat → Int} {L : Nat → ByteArray} (h : Own w g cap q 2 61 (mvF M L)) (hq : q ≤ 1000000000) :
    Calls Try.prog 19 #[.slice (some ⟨g, 0, none⟩) q cap] w fun e w' => (∃ g' cap', e = .returned (.slice (some ⟨g', 0, none⟩) (trL (nsO q M L)).length cap') ∧ w.heap.size ≤ g' ∧ OwnI w' g' cap' (trL (nsO q M L))) ∧ Below w.heap.size w w' := by
  have h2 := specTrains_any g 0 cap (nsO q M L) w (by rw [nsO_len]; omega) (NtC.of_own h)
  rw [nsO_len] at h2
  exact h2
theorem own_tr {w : World} {g cap q : Nat} {M : Nat → Int} {L : Nat → ByteArray} (h : Own w g cap q 2 61 (mvF M L)) (hq : q ≤ 1000000000) :
    Calls Try.prog 21 #[.slice (some ⟨g, 0, none⟩) q cap] w fun e w' => (∃ g' cap', e = .returned (.slice (some ⟨g', 0, none⟩) (trL (nsO q M L)).length cap') ∧ w.heap.size ≤ g' ∧ OwnI w' g' cap' (trL (nsO q M L))) ∧ Below w.heap.size w w' := by
  have h2 := trains_any g 0 cap (nsO q M L) w (by rw [nsO_len]; omega) (NtC.of_own h)
  rw [nsO_len] at h2
  exact h2
theorem eqI_same {w : World} {v u : Value} {l : List Int} (hl : l.length ≤ 1000) (hv : SL w v l.length (iF l)) (hu : SL w u l.length (iF l)) : Calls Try.prog 22 #[v, u] w fun e w' => e = .returned (.bool true) ∧ Below w.heap.size w w' :=
  (eqIntS_SL v u l.length l.length (iF l) (iF l) w (by omega) (by omega) hv hu).mono fun e w' ⟨h1, h2⟩ => ⟨by rw [h1, eqSl_same], below_dr h2 _⟩
set_option linter.unusedSimpArgs false in
set_option maxRecDepth 100000 in
set_option maxHeartbeats 4000000 in
theorem lawTrains (v : Value) (q : Nat) (M : Nat → Int) (L : Nat → ByteArray) (w : World) (hq : q ≤ 9223372036854775807) (hs : ∀ k, k < q → (L k).size ≤ 9223372036854775807) (hv : MLs w v q M L) :
    Calls Try.prog 4 #[v] w fun e w' => e = .returned (.bool true) ∧ Below w.heap.size w w' := by
  have HV : Hid (∀ w', Below w.heap.size w w' → MLs w' v q M L) := fun w' hb => hv.keep hb
  have HSZ := Lib.hid (szNoteS_any v q M L 1048576 w (by omega) hq hs hv)
  obtain ⟨ao, c, rfl⟩ := hv.shape
  have HB : Hid (Below w.heap.size w w) := Below.refl _ _
  clear hv hs
  go_enter Try.func4, Try.ntmps4
  go_wp2_with fail
  refine HSZ.out.mono ?_
  rintro e w1 ⟨⟨r, rfl, hr⟩, hb1⟩
  have hb9 := hb1
  (try replace T3 := Lib.hid (Own.below T3.out hb9 (Own.lt T3.out)))
  (try replace X4 := Lib.hid (Own.below X4.out hb9 (Own.lt X4.out)))
  (try replace T5 := Lib.hid (Own.below T5.out hb9 (Own.lt T5.out)))
  replace HB := Lib.hid (HB.out.trans (hb9.mono HB.out.size))
  clear hb9
  clear hb1
  rcases hr with rfl | ⟨hr0, hr1, hr2⟩
  · go_wp2_with fail
    go_ret
    exact ⟨rfl, HB.out⟩
  have hqb : q ≤ 1048576 := by omega
  have HTN : Hid (∀ W, Below w.heap.size w W → Calls Try.prog 20 #[.slice ao q c] W fun e w' => ∃ g c', e = .returned (.slice (some ⟨g, 0, none⟩) q c') ∧ W.heap.size ≤ g ∧ Own w' g c' q 2 61 (mvF M L) ∧ Below W.heap.size W w') := fun W hW => toNoteS_ML _ q M L W (by omega) (HV.out W hW)
  have hr3 : ¬ r < 0 := by omega
  have hnl := trL_len (nsO q M L)
  obtain ⟨l, hl⟩ : ∃ l, l = trL (nsO q M L) := ⟨_, rfl⟩
  have HL := Lib.hid hl
  rw [← hl] at hnl
  clear hl
  go_wp2_with fail
  -- the reference's answer
  refine (HTN.out _ HB.out).mono ?_
  rintro e w2 ⟨g2, c2, rfl, hg2, ho2, hb2⟩
  have HS := Lib.hid (own_trS ho2 (by omega))
  rw [← HL.out] at HS
  have hb9 := hb2
  (try replace T3 := Lib.hid (Own.below T3.out hb9 (Own.lt T3.out)))
  (try replace X4 := Lib.hid (Own.below X4.out hb9 (Own.lt X4.out)))
  (try replace T5 := Lib.hid (Own.below T5.out hb9 (Own.lt T5.out)))
  replace HB := Lib.hid (HB.out.trans (hb9.mono HB.out.size))
  clear hb9
  clear hb2 ho2
  go_wp2_with fail
  refine HS.out.mono ?_
  rintro e w3 ⟨⟨g3, c3, rfl, hg3, ho3⟩, hb3⟩
  have T3 := Lib.hid ho3
  have hz3 : g3 < w3.heap.size := Own.lt ho3
  have hz23 : w.heap.size ≤ w2.heap.size := HB.out.size
  replace HB := Lib.hid (HB.out.trans (hb3.mono HB.out.size))
  clear hb3 ho3 HS
  go_wp2_with fail
  -- the argument
  refine (HTN.out _ HB.out).mono ?_
  rintro e w4 ⟨g4, c4, rfl, hg4, ho4, hb4⟩
  have hb9 := hb4
  (try replace T3 := Lib.hid (Own.below T3.out hb9 (Own.lt T3.out)))
  (try replace X4 := Lib.hid (Own.below X4.out hb9 (Own.lt X4.out)))
  (try replace T5 := Lib.hid (Own.below T5.out hb9 (Own.lt T5.out)))
  replace HB := Lib.hid (HB.out.trans (hb9.mono HB.out.size))
  clear hb9
  have X4 := Lib.hid ho4
  have hz4 : g4 < w4.heap.size := ho4.lt
  have HS := Lib.hid (own_tr ho4 (by omega))
  rw [← HL.out] at HS
  clear hb4 ho4
  go_wp2_with fail
  refine HS.out.mono ?_
  rintro e w5 ⟨⟨g5, c5, rfl, hg5, ho5⟩, hb5⟩
  have hb9 := hb5
  (try replace T3 := Lib.hid (Own.below T3.out hb9 (Own.lt T3.out)))
  (try replace X4 := Lib.hid (Own.below X4.out hb9 (Own.lt X4.out)))
  (try replace T5 := Lib.hid (Own.below T5.out hb9 (Own.lt T5.out)))
  replace HB := Lib.hid (HB.out.trans (hb9.mono HB.out.size))
  clear hb9
  have T5 := Lib.hid ho5
  have hz5 : g5 < w5.heap.size := Own.lt ho5
  clear hb5 ho5 HS
  go_wp2_with fail
  -- alike
  refine (eqI_same (by omega) (OwnI.reads T5.out) (OwnI.reads T3.out)).mono ?_
  rintro e w6 ⟨rfl, hb6⟩
  have hb9 := hb6
  (try replace T3 := Lib.hid (Own.below T3.out hb9 (Own.lt T3.out)))
  (try replace X4 := Lib.hid (Own.below X4.out hb9 (Own.lt X4.out)))
  (try replace T5 := Lib.hid (Own.below T5.out hb9 (Own.lt T5.out)))
  replace HB := Lib.hid (HB.out.trans (hb9.mono HB.out.size))
  clear hb9
  have hz6 : w5.heap.size ≤ w6.heap.size := hb6.size
  clear hb6
  go_wp2_with fail
  refine (HTN.out _ HB.out).mono ?_
  rintro e w7 ⟨g7, c7, rfl, hg7, ho7, hb7⟩
  have hb9 := hb7
  (try replace T3 := Lib.hid (Own.below T3.out hb9 (Own.lt T3.out)))
  (try replace X4 := Lib.hid (Own.below X4.out hb9 (Own.lt X4.out)))
  (try replace T5 := Lib.hid (Own.below T5.out hb9 (Own.lt T5.out)))
  replace HB := Lib.hid (HB.out.trans (hb9.mono HB.out.size))
  clear hb9
  clear hb7
  have HEQ := Lib.hid (eqNoteS_ML (.slice (some ⟨g4, 0, none⟩) q c4) (.slice (some ⟨g7, 0, none⟩) q c7) q M L w7 (by omega) (.inl ⟨g4, 0, c4, rfl, MvsC.of_own X4.out⟩) (.inl ⟨g7, 0, c7, rfl, MvsC.of_own ho7⟩))
  clear ho7
  go_wp2_with fail
  refine HEQ.out.mono ?_
  rintro e w8 ⟨rfl, hb8⟩
  have hb9 := hb8
  (try replace T3 := Lib.hid (Own.below T3.out hb9 (Own.lt T3.out)))
  (try replace X4 := Lib.hid (Own.below X4.out hb9 (Own.lt X4.out)))
  (try replace T5 := Lib.hid (Own.below T5.out hb9 (Own.lt T5.out)))
  replace HB := Lib.hid (HB.out.trans (hb9.mono HB.out.size))
  clear hb9
  clear hb8 HEQ
  have HMK := Lib.hid (markNoteS_any g4 c4 q M L 1 w8 (by omega) (by omega) X4.out)
  go_wp2_with fail
  -- marks on the argument
  refine HMK.out.mono ?_
  rintro e w9 ⟨rfl, _, hg⟩
  replace T3 := Lib.hid (Own.kept T3.out hg (by simp; omega))
  replace T5 := Lib.hid (Own.kept T5.out hg (by simp; omega))
  replace HB := Lib.hid (below_grown HB.out hg (fun c e => by simp at e; omega) (Nat.le_refl _))
  clear hg HMK X4
  have hk1 : ¬ (((1 : Nat) : Int) + 2 * (q : Int)) < 0 := by omega
  have hk2 : ¬ ((1 : Int) + 2 * (q : Int)) < 0 := by omega
  go_wp2_with fail
  refine (eqI_same (by omega) (OwnI.reads T5.out) (OwnI.reads T3.out)).mono ?_
  rintro e w10 ⟨rfl, hb10⟩
  have hb9 := hb10
  (try replace T3 := Lib.hid (Own.below T3.out hb9 (Own.lt T3.out)))
  (try replace X4 := Lib.hid (Own.below X4.out hb9 (Own.lt X4.out)))
  (try replace T5 := Lib.hid (Own.below T5.out hb9 (Own.lt T5.out)))
  replace HB := Lib.hid (HB.out.trans (hb9.mono HB.out.size))
  clear hb9
  clear hb10
  have HMI := Lib.hid (markIntS_any g5 c5 l.length (iF l) 1 w10 (by omega) (by omega) (by omega) T5.out)
  go_wp2_with fail
  -- marks on the answer
  refine HMI.out.mono ?_
  rintro e w11 ⟨rfl, hmk, hg⟩
  have HK : Hid (∀ W, Own W g5 c5 l.length 1 3 (fun i => .int .i64 (1 + i)) → Calls Try.prog 26 #[.slice (some ⟨g5, 0, none⟩) l.length c5, .int .i64 1] W fun e w' => e = .returned (.int .i64 (1 + l.length)) ∧ W = w') := fun W h => heldI_row _ l.length (some g5) 1 W (by omega) (by omega) (by omega) (.inl ⟨g5, c5, rfl, rfl, h⟩)
  replace T3 := Lib.hid (Own.kept T3.out hg (by simp; omega))
  replace HB := Lib.hid (below_grown HB.out hg (fun c e => by simp at e; omega) (Nat.le_refl _))
  clear T5
  have T5 := Lib.hid hmk
  clear hmk hg HMI
  have hk3 : ¬ ((1 : Int) + (l.length : Int)) < 0 := by omega
  go_wp2_with fail
  refine (HK.out _ T5.out).mono ?_
  rintro e w' ⟨rfl, rfl⟩
  go_wp2_with fail
  -- another call
  refine (HTN.out _ HB.out).mono ?_
  rintro e w12 ⟨g12, c12, rfl, hg12, ho12, hb12⟩
  have hb9 := hb12
  (try replace T3 := Lib.hid (Own.below T3.out hb9 (Own.lt T3.out)))
  (try replace X4 := Lib.hid (Own.below X4.out hb9 (Own.lt X4.out)))
  (try replace T5 := Lib.hid (Own.below T5.out hb9 (Own.lt T5.out)))
  replace HB := Lib.hid (HB.out.trans (hb9.mono HB.out.size))
  clear hb9
  have HS := Lib.hid (own_tr ho12 (by omega))
  rw [← HL.out] at HS
  clear hb12 ho12
  go_wp2_with fail
  refine HS.out.mono ?_
  rintro e w13 ⟨⟨g13, c13, rfl, hg13, ho13⟩, hb13⟩
  have hb9 := hb13
  (try replace T3 := Lib.hid (Own.below T3.out hb9 (Own.lt T3.out)))
  (try replace X4 := Lib.hid (Own.below X4.out hb9 (Own.lt X4.out)))
  (try replace T5 := Lib.hid (Own.below T5.out hb9 (Own.lt T5.out)))
  replace HB := Lib.hid (HB.out.trans (hb9.mono HB.out.size))
  clear hb9
  have T13 := Lib.hid ho13
  clear hb13 ho13 HS
  go_wp2_with fail
  refine (eqI_same (by omega) (OwnI.reads T13.out) (OwnI.reads T3.out)).mono ?_
  rintro e w14 ⟨rfl, hb14⟩
  have hb9 := hb14
  (try replace T3 := Lib.hid (Own.below T3.out hb9 (Own.lt T3.out)))
  (try replace X4 := Lib.hid (Own.below X4.out hb9 (Own.lt X4.out)))
  (try replace T5 := Lib.hid (Own.below T5.out hb9 (Own.lt T5.out)))
  replace HB := Lib.hid (HB.out.trans (hb9.mono HB.out.size))
  clear hb9
  clear hb14
  go_wp2_with fail
  refine (HK.out _ T5.out).mono ?_
  rintro e w' ⟨rfl, rfl⟩
  go_wp2_with fail
  go_ret
  exact ⟨rfl, HB.out⟩
end Go.Proofs.Ytokddeoliieofaa
