/-
  The walk of the exact law of LineRun.
-/
import Derived.Test.YtbachpfgakjncaaEf
namespace Go.Proofs.Ytbachpfgakjncaa
open Go.RowKit

/-- moves of their own -/
def RowM (w : World) (v : Value) (q : Nat) (M : Nat → Int) (L : Nat → ByteArray) (g : Nat) : Prop := ∃ c, v = .slice (some ⟨g, 0, none⟩) q c ∧ Own w g c q 2 34 (mvF M L)
theorem RowM.below {w w' : World} {v : Value} {q : Nat} {M : Nat → Int} {L : Nat → ByteArray} {g : Nat} (h : RowM w v q M L g) (hb : Below w.heap.size w w') : RowM w' v q M L g := by
  obtain ⟨c, e, h⟩ := h
  exact ⟨c, e, h.below hb h.lt⟩
theorem RowM.grown {w w' : World} {v : Value} {q : Nat} {M : Nat → Int} {L : Nat → ByteArray} {g : Nat} {row : Option Nat} (h : RowM w v q M L g) (hb : w.grownBy w' row) (hne : row ≠ some g) : RowM w' v q M L g := by
  obtain ⟨c, e, h⟩ := h
  exact ⟨c, e, h.kept hb (fun e => hne e.symm)⟩
theorem RowM.reads {w : World} {v : Value} {q : Nat} {M : Nat → Int} {L : Nat → ByteArray} {g : Nat} (h : RowM w v q M L g) : MLs w v q M L := by
  obtain ⟨c, e, h⟩ := h
  exact .inl ⟨g, 0, c, e, MvsC.of_own h⟩
theorem RowM.lt {w : World} {v : Value} {q : Nat} {M : Nat → Int} {L : Nat → ByteArray} {g : Nat} (h : RowM w v q M L g) : g < w.heap.size := by
  obtain ⟨c, e, h⟩ := h
  exact h.lt
theorem LnN.run {z : Nat} {w : World} {va vb u : Value} {x : Ln} {q : Nat} {M : Nat → Int} {L : Nat → ByteArray} {g : Nat} (hv : LnO z w (.agg #[va, vb]) x) (hm : RowM w u q M L g) (h1 : x.n ≤ 1000000000) (h2 : x.m ≤ 1000000000) (h3 : q ≤ 1000000000) :
    Calls Try.prog 16 #[.agg #[va, vb], u] w (LrR (rnO x M L q) w) := by
  obtain ⟨b1, c1, b2, c2, e, o1, o2, _⟩ := hv
  obtain ⟨c, rfl, o3⟩ := hm
  cases e
  exact lineRun_any b1 0 c1 b2 0 c2 g 0 q c x M L w (by omega) (by omega) (by omega) (BkC.of_own o1) (IC.of_own o2) (MvsC.of_own o3)
theorem LnN.runS {z : Nat} {w : World} {va vb u : Value} {x : Ln} {q : Nat} {M : Nat → Int} {L : Nat → ByteArray} {g : Nat} (hv : LnO z w (.agg #[va, vb]) x) (hm : RowM w u q M L g) (h1 : x.n ≤ 1000000000) (h2 : x.m ≤ 1000000000) (h3 : q ≤ 1000000000) :
    Calls Try.prog 36 #[.agg #[va, vb], u] w (LrR (rnO x M L q) w) := by
  obtain ⟨b1, c1, b2, c2, e, o1, o2, _⟩ := hv
  obtain ⟨c, rfl, o3⟩ := hm
  cases e
  exact specLineRun_any b1 0 c1 b2 0 c2 g 0 q c x M L w (by omega) (by omega) (by omega) (BkC.of_own o1) (IC.of_own o2) (MvsC.of_own o3)
theorem rnO_nm {x : Ln} {M : Nat → Int} {L : Nat → ByteArray} {q : Nat} {y : Ln} (h : y = (rnO x M L q).getD zLn) : y.n ≤ x.n ∧ y.m ≤ x.m := by
  cases e : rnO x M L q with
  | none => rw [e] at h; subst h; exact ⟨Nat.zero_le _, Nat.zero_le _⟩
  | some z =>
    rw [e] at h
    have h' : y = z := h
    rw [h']
    unfold rnO at e
    split at e
    · have := runO_nm e
      exact ⟨by show z.n ≤ _; omega, by show z.m ≤ _; omega⟩
    · cases e
theorem below_grown {B : Nat} {w0 w w' : World} {row : Option Nat} (h : Below B w0 w) (hg : w.grownBy w' row) (hr : ∀ c, row = some c → B ≤ c) (hB : B ≤ w0.heap.size) : Below B w0 w' := by
  refine h.trans ⟨hg.os, hg.tape, hg.output, hg.size, fun k hk => hg.block k (Nat.lt_of_lt_of_le hk (Nat.le_trans hB h.size)) (fun e => ?_)⟩
  have := hr k e.symm
  omega
theorem LB.keepR {w w' : World} {b : Nat} {va vb : Value} {y : Ln} {g1 g2 row : Option Nat} (h : LB w b va vb y g1 g2) (hb : w.grownBy w' row) {lo hi : Nat} (hr : ∀ c, row = some c → lo ≤ c ∧ c < hi) (h1 : ∀ c, g1 = some c → c < lo ∨ hi ≤ c) (h2 : ∀ c, g2 = some c → c < lo ∨ hi ≤ c) (h3 : b < lo ∨ hi ≤ b) : LB w' b va vb y g1 g2 :=
  h.grown hb (fun c e => ⟨by have := hr c e; omega, fun e2 => by have := hr c e; have := h1 c e2; omega, fun e2 => by have := hr c e; have := h2 c e2; omega⟩)
set_option linter.unusedSimpArgs false in
set_option maxRecDepth 100000 in
set_option maxHeartbeats 4000000 in
theorem lawLineRun (v u : Value) (x : Ln) (q : Nat) (M : Nat → Int) (L : Nat → ByteArray) (w : World) (hn : x.n ≤ 9223372036854775807) (hm : x.m ≤ 9223372036854775807) (hq : q ≤ 9223372036854775807) (hs : ∀ k, k < q → (L k).size ≤ 9223372036854775807) (hv : LnV w v x) (hu : MLs w u q M L) :
    Calls Try.prog 7 #[v, u] w fun e w' => e = .returned (.bool true) ∧ Below w.heap.size w w' := by
  have HV : Hid (∀ w', Below w.heap.size w w' → LnV w' v x) := fun w' hb => hv.keep hb
  have HU : Hid (∀ w', Below w.heap.size w w' → MLs w' u q M L) := fun w' hb => hu.keep hb
  have HBB : Hid (∀ a, Below w.heap.size w (w.alloc a)) := fun a => below_all _ _
  have HS := Lib.hid hs
  obtain ⟨va0, vb0, rfl, _, _⟩ := hv
  clear hu hs
  go_enter Try.func7, Try.ntmps7
  go_wp2_with fail
  have HB := Lib.hid (HBB.out (.cells #[va0, vb0] 40))
  have HA : Hid (Bx (w.alloc (.cells #[va0, vb0] 40)) w.heap.size 40 #[va0, vb0]) := Bx.new _ _ _
  generalize hW0 : w.alloc (.cells #[va0, vb0] 40) = w0 at *
  clear hW0
  have hac := HA.out.cell
  refine (szLine_any _ x _ _ (by omega) hn hm (HV.out _ HB.out)).mono ?_
  rintro e w1 ⟨rfl, hb1⟩
  have hb9 := hb1
  (try replace HA := Lib.hid (HA.out.below hb9 HA.out.lt))
  (try replace HO := Lib.hid (HO.out.below hb9 (Nat.le_refl _)))
  (try replace H6 := Lib.hid (H6.out.below hb9))
  (try replace H8 := Lib.hid (H8.out.below hb9))
  (try replace H9 := Lib.hid (H9.out.below hb9))
  (try replace H10 := Lib.hid (H10.out.below hb9))
  (try replace H13 := Lib.hid (H13.out.below hb9))
  (try replace H15 := Lib.hid (H15.out.below hb9))
  (try replace HKB := Lib.hid (HKB.out.below hb9))
  (try replace HKI := Lib.hid (HKI.out.below hb9))
  (try replace HX10 := Lib.hid (HX10.out.below hb9 HX10.out.lt))
  replace HB := Lib.hid (HB.out.trans (hb9.mono HB.out.size))
  clear hb9
  clear hb1
  have hac := HA.out.cell
  by_cases hz : (1048576 : Int) - (x.n + x.m : Nat) < 0
  · rw [show szR (x.n + x.m) 1048576 = -1 from if_pos hz]
    go_wp2_with fail
    go_ret
    exact ⟨rfl, HB.out⟩
  rw [show szR (x.n + x.m) 1048576 = 1048576 - (x.n + x.m : Nat) from if_neg hz]
  have hnb : x.n ≤ 1048576 := by omega
  have hmb : x.m ≤ 1048576 := by omega
  obtain ⟨lf, hlf⟩ : ∃ lf : Int, lf = 1048576 - (x.n + x.m : Nat) := ⟨_, rfl⟩
  rw [← hlf]
  have hlf0 : 0 ≤ lf ∧ lf ≤ 1048576 := by omega
  have HLF := Lib.hid hlf
  clear hlf hz
  have hl0 : ¬ lf < 0 := by omega
  go_wp2_with fail
  refine (szMoveS_any u q M L lf _ (by omega) hq HS.out (HU.out _ HB.out)).mono ?_
  rintro e w2 ⟨⟨r, rfl, hr⟩, hb2⟩
  have hb9 := hb2
  (try replace HA := Lib.hid (HA.out.below hb9 HA.out.lt))
  (try replace HO := Lib.hid (HO.out.below hb9 (Nat.le_refl _)))
  (try replace H6 := Lib.hid (H6.out.below hb9))
  (try replace H8 := Lib.hid (H8.out.below hb9))
  (try replace H9 := Lib.hid (H9.out.below hb9))
  (try replace H10 := Lib.hid (H10.out.below hb9))
  (try replace H13 := Lib.hid (H13.out.below hb9))
  (try replace H15 := Lib.hid (H15.out.below hb9))
  (try replace HKB := Lib.hid (HKB.out.below hb9))
  (try replace HKI := Lib.hid (HKI.out.below hb9))
  (try replace HX10 := Lib.hid (HX10.out.below hb9 HX10.out.lt))
  replace HB := Lib.hid (HB.out.trans (hb9.mono HB.out.size))
  clear hb9
  clear hb2 hac
  have hac := HA.out.cell
  rcases hr with rfl | ⟨hr0, hr1, hr2⟩
  · go_wp2_with fail
    go_ret
    exact ⟨rfl, HB.out⟩
  have hqb : q ≤ 1048576 := by omega
  have hrn : ¬ r < 0 := by omega
  have HTL : Hid (∀ W, Below w.heap.size w W → Calls Try.prog 19 #[.agg #[va0, vb0]] W fun e w' => ∃ u, e = .returned u ∧ LnO W.heap.size w' u x ∧ Below W.heap.size W w') := fun W hW => toLine_any _ x W (by omega) (by omega) (HV.out W hW)
  have HTM : Hid (∀ W, Below w.heap.size w W → Calls Try.prog 37 #[u] W fun e w' => ∃ g c', e = .returned (.slice (some ⟨g, 0, none⟩) q c') ∧ W.heap.size ≤ g ∧ Own w' g c' q 2 34 (mvF M L) ∧ Below W.heap.size W w') := fun W hW => toMoveS_ML u q M L W (by omega) (HU.out W hW)
  go_wp2_with fail
  -- the reference's answer
  refine (HTL.out _ HB.out).mono ?_
  rintro e w3 ⟨u3, rfl, ho3, hb3⟩
  have hb9 := hb3
  (try replace HA := Lib.hid (HA.out.below hb9 HA.out.lt))
  (try replace HO := Lib.hid (HO.out.below hb9 (Nat.le_refl _)))
  (try replace H6 := Lib.hid (H6.out.below hb9))
  (try replace H8 := Lib.hid (H8.out.below hb9))
  (try replace H9 := Lib.hid (H9.out.below hb9))
  (try replace H10 := Lib.hid (H10.out.below hb9))
  (try replace H13 := Lib.hid (H13.out.below hb9))
  (try replace H15 := Lib.hid (H15.out.below hb9))
  (try replace HKB := Lib.hid (HKB.out.below hb9))
  (try replace HKI := Lib.hid (HKI.out.below hb9))
  (try replace HX10 := Lib.hid (HX10.out.below hb9 HX10.out.lt))
  replace HB := Lib.hid (HB.out.trans (hb9.mono HB.out.size))
  clear hb9
  clear hb3
  obtain ⟨va3, vb3, ga3, gb3, rfl, _⟩ := ho3.new
  have HO := Lib.hid ho3
  clear ho3
  go_wp2_with fail
  refine (HTM.out _ HB.out).mono ?_
  rintro e w4 ⟨g4, c4, rfl, hg4, ho4, hb4⟩
  have hb9 := hb4
  (try replace HA := Lib.hid (HA.out.below hb9 HA.out.lt))
  (try replace HO := Lib.hid (HO.out.below hb9 (Nat.le_refl _)))
  (try replace H6 := Lib.hid (H6.out.below hb9))
  (try replace H8 := Lib.hid (H8.out.below hb9))
  (try replace H9 := Lib.hid (H9.out.below hb9))
  (try replace H10 := Lib.hid (H10.out.below hb9))
  (try replace H13 := Lib.hid (H13.out.below hb9))
  (try replace H15 := Lib.hid (H15.out.below hb9))
  (try replace HKB := Lib.hid (HKB.out.below hb9))
  (try replace HKI := Lib.hid (HKI.out.below hb9))
  (try replace HX10 := Lib.hid (HX10.out.below hb9 HX10.out.lt))
  replace HB := Lib.hid (HB.out.trans (hb9.mono HB.out.size))
  clear hb9
  clear hb4
  go_wp2_with fail
  refine (LnN.runS HO.out ⟨c4, rfl, ho4⟩ (by omega) (by omega) (by omega)).mono ?_
  rintro e w5 h5
  obtain ⟨hb5, va5, vb5, ga5, gb5, rfl, hn5⟩ := h5.get
  clear ho4 hg4 HO h5
  have hb9 := hb5
  (try replace HA := Lib.hid (HA.out.below hb9 HA.out.lt))
  (try replace HO := Lib.hid (HO.out.below hb9 (Nat.le_refl _)))
  (try replace H6 := Lib.hid (H6.out.below hb9))
  (try replace H8 := Lib.hid (H8.out.below hb9))
  (try replace H9 := Lib.hid (H9.out.below hb9))
  (try replace H10 := Lib.hid (H10.out.below hb9))
  (try replace H13 := Lib.hid (H13.out.below hb9))
  (try replace H15 := Lib.hid (H15.out.below hb9))
  (try replace HKB := Lib.hid (HKB.out.below hb9))
  (try replace HKI := Lib.hid (HKI.out.below hb9))
  (try replace HX10 := Lib.hid (HX10.out.below hb9 HX10.out.lt))
  replace HB := Lib.hid (HB.out.trans (hb9.mono HB.out.size))
  clear hb9
  clear hb5
  obtain ⟨y, hy⟩ : ∃ y, y = (rnO x M L q).getD zLn := ⟨_, rfl⟩
  have hyb := rnO_nm hy
  rw [← hy] at hn5
  obtain ⟨bk, hbk⟩ : ∃ bk, bk = (rnO x M L q).isSome := ⟨_, rfl⟩
  rw [← hbk]
  have HY := Lib.hid hy
  have HBK := Lib.hid hbk
  have hyn : y.n ≤ 1048576 := by omega
  have hym : y.m ≤ 1048576 := by omega
  clear hy hbk hyb
  obtain ⟨ao5, ca5, rfl⟩ := hn5.1.reads.shape
  obtain ⟨bo5, cb5, rfl⟩ := hn5.2.1.reads.shape
  have F5 := Lib.hid hn5.2.2.2
  have hac := HA.out.cell
  have hal := HA.out.lt
  go_wp2_with fail
  have hb9 := below_all w5 (.cells #[.slice ao5 y.n ca5, .slice bo5 y.m cb5] 26)
  (try replace HA := Lib.hid (HA.out.below hb9 HA.out.lt))
  (try replace HO := Lib.hid (HO.out.below hb9 (Nat.le_refl _)))
  (try replace H6 := Lib.hid (H6.out.below hb9))
  (try replace H8 := Lib.hid (H8.out.below hb9))
  (try replace H9 := Lib.hid (H9.out.below hb9))
  (try replace H10 := Lib.hid (H10.out.below hb9))
  (try replace H13 := Lib.hid (H13.out.below hb9))
  (try replace H15 := Lib.hid (H15.out.below hb9))
  (try replace HKB := Lib.hid (HKB.out.below hb9))
  (try replace HKI := Lib.hid (HKI.out.below hb9))
  (try replace HX10 := Lib.hid (HX10.out.below hb9 HX10.out.lt))
  replace HB := Lib.hid (HB.out.trans (hb9.mono HB.out.size))
  clear hb9
  have H6 := Lib.hid hn5.boxed
  have hz6 : w5.heap.size + 1 ≤ (w5.alloc (.cells #[.slice ao5 y.n ca5, .slice bo5 y.m cb5] 26)).heap.size := by simp
  have hwz : w.heap.size ≤ w5.heap.size := by omega
  clear hn5 hac hal
  generalize w5.alloc (.cells #[.slice ao5 y.n ca5, .slice bo5 y.m cb5] 26) = w6 at *
  -- the argument
  refine (HTL.out _ HB.out).mono ?_
  rintro e w7 ⟨u7, rfl, ho7, hb7⟩
  have hb9 := hb7
  (try replace HA := Lib.hid (HA.out.below hb9 HA.out.lt))
  (try replace HO := Lib.hid (HO.out.below hb9 (Nat.le_refl _)))
  (try replace H6 := Lib.hid (H6.out.below hb9))
  (try replace H8 := Lib.hid (H8.out.below hb9))
  (try replace H9 := Lib.hid (H9.out.below hb9))
  (try replace H10 := Lib.hid (H10.out.below hb9))
  (try replace H13 := Lib.hid (H13.out.below hb9))
  (try replace H15 := Lib.hid (H15.out.below hb9))
  (try replace HKB := Lib.hid (HKB.out.below hb9))
  (try replace HKI := Lib.hid (HKI.out.below hb9))
  (try replace HX10 := Lib.hid (HX10.out.below hb9 HX10.out.lt))
  replace HB := Lib.hid (HB.out.trans (hb9.mono HB.out.size))
  clear hb9
  have hz7 : w6.heap.size ≤ w7.heap.size := hb7.size
  clear hb7
  obtain ⟨va7, vb7, ga7, gb7, rfl, hn7⟩ := ho7.new
  obtain ⟨ao7, ca7, rfl⟩ := hn7.1.reads.shape
  obtain ⟨bo7, cb7, rfl⟩ := hn7.2.1.reads.shape
  have HO := Lib.hid ho7
  have F7 := Lib.hid hn7.2.2.2
  clear ho7
  have hac := HA.out.cell
  have hal := HA.out.lt
  go_wp2_with fail
  have hb9 := below_all w7 (.cells #[.slice ao7 x.n ca7, .slice bo7 x.m cb7] 26)
  (try replace HA := Lib.hid (HA.out.below hb9 HA.out.lt))
  (try replace HO := Lib.hid (HO.out.below hb9 (Nat.le_refl _)))
  (try replace H6 := Lib.hid (H6.out.below hb9))
  (try replace H8 := Lib.hid (H8.out.below hb9))
  (try replace H9 := Lib.hid (H9.out.below hb9))
  (try replace H10 := Lib.hid (H10.out.below hb9))
  (try replace H13 := Lib.hid (H13.out.below hb9))
  (try replace H15 := Lib.hid (H15.out.below hb9))
  (try replace HKB := Lib.hid (HKB.out.below hb9))
  (try replace HKI := Lib.hid (HKI.out.below hb9))
  (try replace HX10 := Lib.hid (HX10.out.below hb9 HX10.out.lt))
  replace HB := Lib.hid (HB.out.trans (hb9.mono HB.out.size))
  clear hb9
  have H8 := Lib.hid hn7.boxed
  have hz8 : w7.heap.size + 1 ≤ (w7.alloc (.cells #[.slice ao7 x.n ca7, .slice bo7 x.m cb7] 26)).heap.size := by simp
  clear hn7 hac hal
  generalize w7.alloc (.cells #[.slice ao7 x.n ca7, .slice bo7 x.m cb7] 26) = w8 at *
  refine (HTM.out _ HB.out).mono ?_
  rintro e w9 ⟨g9, c9, rfl, hg9, ho9, hb9⟩
  have hz9 : w8.heap.size ≤ w9.heap.size := hb9.size
  have hx9 := hb9
  clear hb9
  have hb9 := hx9
  (try replace HA := Lib.hid (HA.out.below hb9 HA.out.lt))
  (try replace HO := Lib.hid (HO.out.below hb9 (Nat.le_refl _)))
  (try replace H6 := Lib.hid (H6.out.below hb9))
  (try replace H8 := Lib.hid (H8.out.below hb9))
  (try replace H9 := Lib.hid (H9.out.below hb9))
  (try replace H10 := Lib.hid (H10.out.below hb9))
  (try replace H13 := Lib.hid (H13.out.below hb9))
  (try replace H15 := Lib.hid (H15.out.below hb9))
  (try replace HKB := Lib.hid (HKB.out.below hb9))
  (try replace HKI := Lib.hid (HKI.out.below hb9))
  (try replace HX10 := Lib.hid (HX10.out.below hb9 HX10.out.lt))
  replace HB := Lib.hid (HB.out.trans (hb9.mono HB.out.size))
  clear hb9
  have H9 : Hid (RowM w9 (.slice (some ⟨g9, 0, none⟩) q c9) q M L g9) := ⟨c9, rfl, ho9⟩
  have hl9 := ho9.lt
  clear hx9 ho9
  have h8c := H8.out.bx.cell
  go_wp2_with fail
  refine (LnN.run HO.out H9.out (by omega) (by omega) (by omega)).mono ?_
  rintro e w10 h10
  obtain ⟨hb10, va10, vb10, ga10, gb10, rfl, hn10⟩ := h10.get
  rw [← HY.out] at hn10
  obtain ⟨ao10, ca10, rfl⟩ := hn10.1.reads.shape
  obtain ⟨bo10, cb10, rfl⟩ := hn10.2.1.reads.shape
  rw [← HBK.out]
  clear h10 HO h8c
  have hb9 := hb10
  (try replace HA := Lib.hid (HA.out.below hb9 HA.out.lt))
  (try replace HO := Lib.hid (HO.out.below hb9 (Nat.le_refl _)))
  (try replace H6 := Lib.hid (H6.out.below hb9))
  (try replace H8 := Lib.hid (H8.out.below hb9))
  (try replace H9 := Lib.hid (H9.out.below hb9))
  (try replace H10 := Lib.hid (H10.out.below hb9))
  (try replace H13 := Lib.hid (H13.out.below hb9))
  (try replace H15 := Lib.hid (H15.out.below hb9))
  (try replace HKB := Lib.hid (HKB.out.below hb9))
  (try replace HKI := Lib.hid (HKI.out.below hb9))
  (try replace HX10 := Lib.hid (HX10.out.below hb9 HX10.out.lt))
  replace HB := Lib.hid (HB.out.trans (hb9.mono HB.out.size))
  clear hb9
  have hz10 : w9.heap.size ≤ w10.heap.size := hb10.size
  have F10 := Lib.hid hn10.2.2.2
  clear hb10
  have h6c := H6.out.bx.cell
  have h6l := H6.out.bx.lt
  have h8c := H8.out.bx.cell
  have h8l := H8.out.bx.lt
  go_wp2_with fail
  have hb9 := below_all w10 (.cells #[.slice ao10 y.n ca10, .slice bo10 y.m cb10] 26)
  (try replace HA := Lib.hid (HA.out.below hb9 HA.out.lt))
  (try replace HO := Lib.hid (HO.out.below hb9 (Nat.le_refl _)))
  (try replace H6 := Lib.hid (H6.out.below hb9))
  (try replace H8 := Lib.hid (H8.out.below hb9))
  (try replace H9 := Lib.hid (H9.out.below hb9))
  (try replace H10 := Lib.hid (H10.out.below hb9))
  (try replace H13 := Lib.hid (H13.out.below hb9))
  (try replace H15 := Lib.hid (H15.out.below hb9))
  (try replace HKB := Lib.hid (HKB.out.below hb9))
  (try replace HKI := Lib.hid (HKI.out.below hb9))
  (try replace HX10 := Lib.hid (HX10.out.below hb9 HX10.out.lt))
  replace HB := Lib.hid (HB.out.trans (hb9.mono HB.out.size))
  clear hb9
  have H10 := Lib.hid hn10.boxed
  have hz11 : w10.heap.size + 1 ≤ (w10.alloc (.cells #[.slice ao10 y.n ca10, .slice bo10 y.m cb10] 26)).heap.size := by simp
  clear hn10 h6c h6l h8c h8l
  generalize w10.alloc (.cells #[.slice ao10 y.n ca10, .slice bo10 y.m cb10] 26) = w11 at *
  -- the two answers are alike
  refine (eqLine_same _ _ y _ (by omega) (by omega) H10.out.reads H6.out.reads).mono ?_
  rintro e w12 ⟨rfl, hb12⟩
  have hb9 := hb12
  (try replace HA := Lib.hid (HA.out.below hb9 HA.out.lt))
  (try replace HO := Lib.hid (HO.out.below hb9 (Nat.le_refl _)))
  (try replace H6 := Lib.hid (H6.out.below hb9))
  (try replace H8 := Lib.hid (H8.out.below hb9))
  (try replace H9 := Lib.hid (H9.out.below hb9))
  (try replace H10 := Lib.hid (H10.out.below hb9))
  (try replace H13 := Lib.hid (H13.out.below hb9))
  (try replace H15 := Lib.hid (H15.out.below hb9))
  (try replace HKB := Lib.hid (HKB.out.below hb9))
  (try replace HKI := Lib.hid (HKI.out.below hb9))
  (try replace HX10 := Lib.hid (HX10.out.below hb9 HX10.out.lt))
  replace HB := Lib.hid (HB.out.trans (hb9.mono HB.out.size))
  clear hb9
  have hz12 : w11.heap.size ≤ w12.heap.size := hb12.size
  clear hb12
  have hbb : (bk != bk) = false := by simp
  have h8c := H8.out.bx.cell
  have hac := HA.out.cell
  go_wp2_with fail
  -- the argument is as it was
  refine wp_region_held_drew (S := (fun w' => w'.cell? ⟨w7.heap.size, 0, none⟩ = some (.slice ao7 x.n ca7) ∧ w'.cell? ⟨w7.heap.size, 1, none⟩ = some (.slice bo7 x.m cb7) ∧ w'.cell? ⟨w.heap.size, 0, none⟩ = some va0 ∧ w'.cell? ⟨w.heap.size, 1, none⟩ = some vb0)) (by kernel_rfl) ?_ (fun hHeld => ?_)
  · try dsimp only
    go_keep
  refine wpAnyH_take (i := 0) (oi := ?_) (v := ?_) ?_ (by kernel_rfl) (by kernel_rfl) (by kernel_rfl) ?_ ?_ (by assumption) ?_
  rotate_left 2
  · simp only [List.getElem?_toArray, List.getElem?_cons_succ, List.getElem?_cons_zero]; rfl
  · exact fun _ _ _ h => h
  · first
      | (refine Or.inr ⟨?_, ?_⟩ <;> rfl)
      | (refine Or.inl ⟨?_, ?_⟩; · rfl
         intro w hSw; (try dsimp only at hSw); go_simp; (try with_reducible rfl); done)
  try simp only [Act.put, List.setIfInBounds_toArray, List.set_cons_zero, List.set_cons_succ]
  refine wpAnyH_take (i := 1) (oi := ?_) (v := ?_) ?_ (by kernel_rfl) (by kernel_rfl) (by kernel_rfl) ?_ ?_ (by assumption) ?_
  rotate_left 2
  · simp only [List.getElem?_toArray, List.getElem?_cons_succ, List.getElem?_cons_zero]; rfl
  · exact fun _ _ _ h => h
  · first
      | (refine Or.inr ⟨?_, ?_⟩ <;> rfl)
      | (refine Or.inl ⟨?_, ?_⟩; · rfl
         intro w hSw; (try dsimp only at hSw); go_simp; (try with_reducible rfl); done)
  try simp only [Act.put, List.setIfInBounds_toArray, List.set_cons_zero, List.set_cons_succ]
  refine wpAnyH_ready (rs := [2]) (by kernel_rfl) (by simp) ?_
  refine AllReadyH.cons (o := ?_) ?_ (fun K hK => ?_) AllReadyH.nil
  rotate_left 1
  · simp only [List.getElem?_toArray, List.getElem?_cons_succ, List.getElem?_cons_zero]; rfl
  go_simp
  go_at_call 19
  go_must (refine Calls.mono (HTL.out _ HB.out.drew) ?_)
  rintro e w13 ⟨u13, rfl, ho13, hb13⟩
  replace hb13 : Below w12.heap.size w12 w13 := (Below.refl _ w12).drew.trans hb13
  have hb9 := hb13
  (try replace HA := Lib.hid (HA.out.below hb9 HA.out.lt))
  (try replace HO := Lib.hid (HO.out.below hb9 (Nat.le_refl _)))
  (try replace H6 := Lib.hid (H6.out.below hb9))
  (try replace H8 := Lib.hid (H8.out.below hb9))
  (try replace H9 := Lib.hid (H9.out.below hb9))
  (try replace H10 := Lib.hid (H10.out.below hb9))
  (try replace H13 := Lib.hid (H13.out.below hb9))
  (try replace H15 := Lib.hid (H15.out.below hb9))
  (try replace HKB := Lib.hid (HKB.out.below hb9))
  (try replace HKI := Lib.hid (HKI.out.below hb9))
  (try replace HX10 := Lib.hid (HX10.out.below hb9 HX10.out.lt))
  replace HB := Lib.hid (HB.out.trans (hb9.mono HB.out.size))
  clear hb9
  have hz13 : w12.heap.size ≤ w13.heap.size := hb13.size
  clear hb13 h8c hac
  have h8c := H8.out.bx.cell
  have hac := HA.out.cell
  obtain ⟨va13, vb13, ga13, gb13, rfl, hn13⟩ := ho13.new
  have HN13 := Lib.hid hn13
  clear ho13 hn13
  refine hK.out _ _ ?_ (fun hHeld => ?_)
  · try dsimp only
    go_keep
  clear hK K
  try simp only [Act.put, List.setIfInBounds_toArray, List.set_cons_zero, List.set_cons_succ]
  refine wpAnyH_ready (rs := [3]) (by kernel_rfl) (by simp) ?_
  refine AllReadyH.cons (o := ?_) ?_ (fun K hK => ?_) AllReadyH.nil
  rotate_left 1
  · simp only [List.getElem?_toArray, List.getElem?_cons_succ, List.getElem?_cons_zero]; rfl
  go_simp
  go_at_call 21
  go_must (refine Calls.mono (eqLine_same _ _ x _ (by omega) (by omega) H8.out.reads HN13.out.reads) ?_)
  rintro e w14 ⟨rfl, hb14⟩
  have hb9 := hb14
  (try replace HA := Lib.hid (HA.out.below hb9 HA.out.lt))
  (try replace HO := Lib.hid (HO.out.below hb9 (Nat.le_refl _)))
  (try replace H6 := Lib.hid (H6.out.below hb9))
  (try replace H8 := Lib.hid (H8.out.below hb9))
  (try replace H9 := Lib.hid (H9.out.below hb9))
  (try replace H10 := Lib.hid (H10.out.below hb9))
  (try replace H13 := Lib.hid (H13.out.below hb9))
  (try replace H15 := Lib.hid (H15.out.below hb9))
  (try replace HKB := Lib.hid (HKB.out.below hb9))
  (try replace HKI := Lib.hid (HKI.out.below hb9))
  (try replace HX10 := Lib.hid (HX10.out.below hb9 HX10.out.lt))
  replace HB := Lib.hid (HB.out.trans (hb9.mono HB.out.size))
  clear hb9
  have hz14 : w13.heap.size ≤ w14.heap.size := hb14.size
  clear hb14 h8c hac HN13
  have h8c := H8.out.bx.cell
  have hac := HA.out.cell
  refine hK.out _ _ ?_ (fun hHeld => ?_)
  · try dsimp only
    go_keep
  clear hK K
  try simp only [Act.put, List.setIfInBounds_toArray, List.set_cons_zero, List.set_cons_succ]
  refine wpAnyH_take (i := 4) (oi := ?_) (v := ?_) ?_ (by kernel_rfl) (by kernel_rfl) (by kernel_rfl) ?_ ?_ (by assumption) ?_
  rotate_left 2
  · simp only [List.getElem?_toArray, List.getElem?_cons_succ, List.getElem?_cons_zero]; rfl
  · exact fun _ _ _ h => h
  · first
      | (refine Or.inr ⟨?_, ?_⟩ <;> rfl)
      | (refine Or.inl ⟨?_, ?_⟩; · rfl
         intro w hSw; (try dsimp only at hSw); go_simp; (try with_reducible rfl); done)
  try simp only [Act.put, List.setIfInBounds_toArray, List.set_cons_zero, List.set_cons_succ]
  refine wpAnyH_done (by kernel_rfl) ?_ _
  go_wp2_with fail
  refine (HTM.out _ HB.out).mono ?_
  rintro e w15 ⟨g15, c15, rfl, hg15, ho15, hb15⟩
  have hb9 := hb15
  (try replace HA := Lib.hid (HA.out.below hb9 HA.out.lt))
  (try replace HO := Lib.hid (HO.out.below hb9 (Nat.le_refl _)))
  (try replace H6 := Lib.hid (H6.out.below hb9))
  (try replace H8 := Lib.hid (H8.out.below hb9))
  (try replace H9 := Lib.hid (H9.out.below hb9))
  (try replace H10 := Lib.hid (H10.out.below hb9))
  (try replace H13 := Lib.hid (H13.out.below hb9))
  (try replace H15 := Lib.hid (H15.out.below hb9))
  (try replace HKB := Lib.hid (HKB.out.below hb9))
  (try replace HKI := Lib.hid (HKI.out.below hb9))
  (try replace HX10 := Lib.hid (HX10.out.below hb9 HX10.out.lt))
  replace HB := Lib.hid (HB.out.trans (hb9.mono HB.out.size))
  clear hb9
  have hz15 : w14.heap.size ≤ w15.heap.size := hb15.size
  clear hb15 h8c hac
  go_wp2_with fail
  refine (eqMoveS_ML _ _ q M L _ (by omega) H9.out.reads (.inl ⟨g15, 0, c15, rfl, MvsC.of_own ho15⟩)).mono ?_
  rintro e w16 ⟨rfl, hb16⟩
  have hb9 := hb16
  (try replace HA := Lib.hid (HA.out.below hb9 HA.out.lt))
  (try replace HO := Lib.hid (HO.out.below hb9 (Nat.le_refl _)))
  (try replace H6 := Lib.hid (H6.out.below hb9))
  (try replace H8 := Lib.hid (H8.out.below hb9))
  (try replace H9 := Lib.hid (H9.out.below hb9))
  (try replace H10 := Lib.hid (H10.out.below hb9))
  (try replace H13 := Lib.hid (H13.out.below hb9))
  (try replace H15 := Lib.hid (H15.out.below hb9))
  (try replace HKB := Lib.hid (HKB.out.below hb9))
  (try replace HKI := Lib.hid (HKI.out.below hb9))
  (try replace HX10 := Lib.hid (HX10.out.below hb9 HX10.out.lt))
  replace HB := Lib.hid (HB.out.trans (hb9.mono HB.out.size))
  clear hb9
  have hz16 : w15.heap.size ≤ w16.heap.size := hb16.size
  clear hb16 ho15
  have h8c := H8.out.bx.cell
  go_wp2_with fail
  -- marks on the arguments
  refine (markLine_any _ _ x ga7 gb7 1 _ (by omega) (by omega) (by omega) (by omega) H8.out.rb H8.out.ri H8.out.n12).mono ?_
  rintro e w17 ⟨rfl, _, _, wm, hgm, hgn⟩
  have F57 : Hid ((∀ c, ga7 = some c → w5.heap.size + 1 ≤ c ∧ c < w7.heap.size) ∧ (∀ c, gb7 = some c → w5.heap.size + 1 ≤ c ∧ c < w7.heap.size)) := ⟨fun c e => by have := F7.out.1 c e; omega, fun c e => by have := F7.out.2 c e; omega⟩
  have HS16 : w16.heap.size ≤ w17.heap.size := Nat.le_trans hgm.size hgn.size
  replace H6 := Lib.hid ((H6.out.keepR hgm F57.out.1 (fun c e => .inl (by have := F5.out.1 c e; omega)) (fun c e => .inl (by have := F5.out.2 c e; omega)) (.inl (by omega))).keepR hgn F57.out.2 (fun c e => .inl (by have := F5.out.1 c e; omega)) (fun c e => .inl (by have := F5.out.2 c e; omega)) (.inl (by omega)))
  replace H10 := Lib.hid ((H10.out.keepR hgm F57.out.1 (fun c e => .inr (by have := F10.out.1 c e; omega)) (fun c e => .inr (by have := F10.out.2 c e; omega)) (.inr (by omega))).keepR hgn F57.out.2 (fun c e => .inr (by have := F10.out.1 c e; omega)) (fun c e => .inr (by have := F10.out.2 c e; omega)) (.inr (by omega)))
  replace H9 := Lib.hid ((H9.out.grown hgm (fun e => by have := F57.out.1 _ e; omega)).grown hgn (fun e => by have := F57.out.2 _ e; omega))
  replace HA := Lib.hid ((HA.out.grown hgm (fun e => by have := F57.out.1 _ e; omega)).grown hgn (fun e => by have := F57.out.2 _ e; omega))
  replace HB := Lib.hid (below_grown (below_grown HB.out hgm (fun c e => by have := F57.out.1 c e; omega) (Nat.le_refl _)) hgn (fun c e => by have := F57.out.2 c e; omega) (Nat.le_refl _))
  clear hgm hgn h8c H8
  have HMK : Hid (Calls Try.prog 23 #[.slice (some ⟨g9, 0, none⟩) q c9, .int .i64 (1 + 3 * x.n + x.m)] w17 fun e w' => e = .returned (.int .i64 (1 + 3 * x.n + x.m + 2 * q)) ∧ w17.grownBy w' (some g9)) := by
    obtain ⟨c, e, h⟩ := H9.out
    cases e
    have h2 := markMoveS_any g9 c9 q M L (1 + 3 * x.n + x.m) w17 (by omega) (by omega) h
    rw [show ((1 + 3 * x.n + x.m : Nat) : Int) = 1 + 3 * x.n + x.m by omega] at h2
    exact h2.mono fun e w' ⟨e1, _, e3⟩ => ⟨e1, e3⟩
  go_wp2_with fail
  refine HMK.out.mono ?_
  rintro e w18 ⟨rfl, hg18⟩
  have hz18 : w17.heap.size ≤ w18.heap.size := hg18.size
  replace H6 := Lib.hid (H6.out.keepR hg18 (lo := g9) (hi := g9 + 1) (fun c e => by cases e; omega) (fun c e => .inl (by have := F5.out.1 c e; omega)) (fun c e => .inl (by have := F5.out.2 c e; omega)) (.inl (by omega)))
  replace H10 := Lib.hid (H10.out.keepR hg18 (lo := g9) (hi := g9 + 1) (fun c e => by cases e; omega) (fun c e => .inr (by have := F10.out.1 c e; omega)) (fun c e => .inr (by have := F10.out.2 c e; omega)) (.inr (by omega)))
  replace HA := Lib.hid (HA.out.grown hg18 (fun e => by cases e; omega))
  replace HB := Lib.hid (below_grown HB.out hg18 (fun c e => by cases e; omega) (Nat.le_refl _))
  clear hg18 H9 HMK
  have hk0 : ¬ (1 + 3 * (x.n : Int) + (x.m : Int) + 2 * (q : Int)) < 0 := by omega
  have h6c := H6.out.bx.cell
  have h10c := H10.out.bx.cell
  go_wp2_with fail
  refine (eqLine_same _ _ y _ (by omega) (by omega) H10.out.reads H6.out.reads).mono ?_
  rintro e w19 ⟨rfl, hb19⟩
  have hb9 := hb19
  (try replace HA := Lib.hid (HA.out.below hb9 HA.out.lt))
  (try replace HO := Lib.hid (HO.out.below hb9 (Nat.le_refl _)))
  (try replace H6 := Lib.hid (H6.out.below hb9))
  (try replace H8 := Lib.hid (H8.out.below hb9))
  (try replace H9 := Lib.hid (H9.out.below hb9))
  (try replace H10 := Lib.hid (H10.out.below hb9))
  (try replace H13 := Lib.hid (H13.out.below hb9))
  (try replace H15 := Lib.hid (H15.out.below hb9))
  (try replace HKB := Lib.hid (HKB.out.below hb9))
  (try replace HKI := Lib.hid (HKI.out.below hb9))
  (try replace HX10 := Lib.hid (HX10.out.below hb9 HX10.out.lt))
  replace HB := Lib.hid (HB.out.trans (hb9.mono HB.out.size))
  clear hb9
  have hz19 : w18.heap.size ≤ w19.heap.size := hb19.size
  clear hb19 h6c h10c hk0
  have h10c := H10.out.bx.cell
  go_wp2_with fail
  -- marks on the answer
  refine (markLine_any _ _ y ga10 gb10 1 _ (by omega) (by omega) (by omega) (by omega) H10.out.rb H10.out.ri H10.out.n12).mono ?_
  rintro e w20 ⟨rfl, hkb, hki, wn, hgm, hgn⟩
  have hz20 : w19.heap.size ≤ w20.heap.size := Nat.le_trans hgm.size hgn.size
  have HKB := Lib.hid hkb
  have HKI := Lib.hid hki
  have HX10 := Lib.hid ((H10.out.bx.grown hgm (fun e => H10.out.nb1 _ e rfl)).grown hgn (fun e => H10.out.nb2 _ e rfl))
  replace H6 := Lib.hid ((H6.out.keepR hgm F10.out.1 (fun c e => .inl (by have := F5.out.1 c e; omega)) (fun c e => .inl (by have := F5.out.2 c e; omega)) (.inl (by omega))).keepR hgn F10.out.2 (fun c e => .inl (by have := F5.out.1 c e; omega)) (fun c e => .inl (by have := F5.out.2 c e; omega)) (.inl (by omega)))
  replace HA := Lib.hid ((HA.out.grown hgm (fun e => by have := F10.out.1 _ e; omega)).grown hgn (fun e => by have := F10.out.2 _ e; omega))
  replace HB := Lib.hid (below_grown (below_grown HB.out hgm (fun c e => by have := F10.out.1 c e; omega) (Nat.le_refl _)) hgn (fun c e => by have := F10.out.2 c e; omega) (Nat.le_refl _))
  clear hgm hgn h10c H10 hkb hki
  have h10c := HX10.out.cell
  go_wp2_with fail
  refine (heldLine_marks _ _ y ga10 gb10 1 _ (by omega) (by omega) (by omega) (by omega) HKB.out HKI.out).mono ?_
  rintro e w21 ⟨rfl, hb21⟩
  have hb9 := hb21
  (try replace HA := Lib.hid (HA.out.below hb9 HA.out.lt))
  (try replace HO := Lib.hid (HO.out.below hb9 (Nat.le_refl _)))
  (try replace H6 := Lib.hid (H6.out.below hb9))
  (try replace H8 := Lib.hid (H8.out.below hb9))
  (try replace H9 := Lib.hid (H9.out.below hb9))
  (try replace H10 := Lib.hid (H10.out.below hb9))
  (try replace H13 := Lib.hid (H13.out.below hb9))
  (try replace H15 := Lib.hid (H15.out.below hb9))
  (try replace HKB := Lib.hid (HKB.out.below hb9))
  (try replace HKI := Lib.hid (HKI.out.below hb9))
  (try replace HX10 := Lib.hid (HX10.out.below hb9 HX10.out.lt))
  replace HB := Lib.hid (HB.out.trans (hb9.mono HB.out.size))
  clear hb9
  have hz21 : w20.heap.size ≤ w21.heap.size := hb21.size
  clear hb21 h10c
  have hk1 : ¬ (1 + 3 * (y.n : Int) + (y.m : Int)) < 0 := by omega
  have hkk : ((1 + 3 * (y.n : Int) + (y.m : Int)) != (1 + 3 * (y.n : Int) + (y.m : Int))) = false := by simp
  have hac := HA.out.cell
  go_wp2_with fail
  -- another call
  refine (HTL.out _ HB.out).mono ?_
  rintro e w22 ⟨u22, rfl, ho22, hb22⟩
  have hb9 := hb22
  (try replace HA := Lib.hid (HA.out.below hb9 HA.out.lt))
  (try replace HO := Lib.hid (HO.out.below hb9 (Nat.le_refl _)))
  (try replace H6 := Lib.hid (H6.out.below hb9))
  (try replace H8 := Lib.hid (H8.out.below hb9))
  (try replace H9 := Lib.hid (H9.out.below hb9))
  (try replace H10 := Lib.hid (H10.out.below hb9))
  (try replace H13 := Lib.hid (H13.out.below hb9))
  (try replace H15 := Lib.hid (H15.out.below hb9))
  (try replace HKB := Lib.hid (HKB.out.below hb9))
  (try replace HKI := Lib.hid (HKI.out.below hb9))
  (try replace HX10 := Lib.hid (HX10.out.below hb9 HX10.out.lt))
  replace HB := Lib.hid (HB.out.trans (hb9.mono HB.out.size))
  clear hb9
  have hz22 : w21.heap.size ≤ w22.heap.size := hb22.size
  clear hb22 hac
  obtain ⟨va22, vb22, ga22, gb22, rfl, _⟩ := ho22.new
  have HO := Lib.hid ho22
  clear ho22
  go_wp2_with fail
  refine (HTM.out _ HB.out).mono ?_
  rintro e w23 ⟨g23, c23, rfl, hg23, ho23, hb23⟩
  have hb9 := hb23
  (try replace HA := Lib.hid (HA.out.below hb9 HA.out.lt))
  (try replace HO := Lib.hid (HO.out.below hb9 (Nat.le_refl _)))
  (try replace H6 := Lib.hid (H6.out.below hb9))
  (try replace H8 := Lib.hid (H8.out.below hb9))
  (try replace H9 := Lib.hid (H9.out.below hb9))
  (try replace H10 := Lib.hid (H10.out.below hb9))
  (try replace H13 := Lib.hid (H13.out.below hb9))
  (try replace H15 := Lib.hid (H15.out.below hb9))
  (try replace HKB := Lib.hid (HKB.out.below hb9))
  (try replace HKI := Lib.hid (HKI.out.below hb9))
  (try replace HX10 := Lib.hid (HX10.out.below hb9 HX10.out.lt))
  replace HB := Lib.hid (HB.out.trans (hb9.mono HB.out.size))
  clear hb9
  have hz23 : w22.heap.size ≤ w23.heap.size := hb23.size
  clear hb23 hg23
  go_wp2_with fail
  refine (LnN.run HO.out ⟨c23, rfl, ho23⟩ (by omega) (by omega) (by omega)).mono ?_
  rintro e w24 h24
  obtain ⟨hb24, va24, vb24, ga24, gb24, rfl, hn24⟩ := h24.get
  rw [← HY.out] at hn24
  obtain ⟨ao24, ca24, rfl⟩ := hn24.1.reads.shape
  obtain ⟨bo24, cb24, rfl⟩ := hn24.2.1.reads.shape
  rw [← HBK.out]
  clear h24 HO ho23
  have hb9 := hb24
  (try replace HA := Lib.hid (HA.out.below hb9 HA.out.lt))
  (try replace HO := Lib.hid (HO.out.below hb9 (Nat.le_refl _)))
  (try replace H6 := Lib.hid (H6.out.below hb9))
  (try replace H8 := Lib.hid (H8.out.below hb9))
  (try replace H9 := Lib.hid (H9.out.below hb9))
  (try replace H10 := Lib.hid (H10.out.below hb9))
  (try replace H13 := Lib.hid (H13.out.below hb9))
  (try replace H15 := Lib.hid (H15.out.below hb9))
  (try replace HKB := Lib.hid (HKB.out.below hb9))
  (try replace HKI := Lib.hid (HKI.out.below hb9))
  (try replace HX10 := Lib.hid (HX10.out.below hb9 HX10.out.lt))
  replace HB := Lib.hid (HB.out.trans (hb9.mono HB.out.size))
  clear hb9
  clear hb24
  have h6c := H6.out.bx.cell
  have h6l := H6.out.bx.lt
  have h10c := HX10.out.cell
  have h10l := HX10.out.lt
  go_wp2_with fail
  have hb9 := below_all w24 (.cells #[.slice ao24 y.n ca24, .slice bo24 y.m cb24] 26)
  (try replace HA := Lib.hid (HA.out.below hb9 HA.out.lt))
  (try replace HO := Lib.hid (HO.out.below hb9 (Nat.le_refl _)))
  (try replace H6 := Lib.hid (H6.out.below hb9))
  (try replace H8 := Lib.hid (H8.out.below hb9))
  (try replace H9 := Lib.hid (H9.out.below hb9))
  (try replace H10 := Lib.hid (H10.out.below hb9))
  (try replace H13 := Lib.hid (H13.out.below hb9))
  (try replace H15 := Lib.hid (H15.out.below hb9))
  (try replace HKB := Lib.hid (HKB.out.below hb9))
  (try replace HKI := Lib.hid (HKI.out.below hb9))
  (try replace HX10 := Lib.hid (HX10.out.below hb9 HX10.out.lt))
  replace HB := Lib.hid (HB.out.trans (hb9.mono HB.out.size))
  clear hb9
  have H15 := Lib.hid hn24.boxed
  clear hn24 h6c h6l h10c h10l
  generalize w24.alloc (.cells #[.slice ao24 y.n ca24, .slice bo24 y.m cb24] 26) = w25 at *
  refine (eqLine_same _ _ y _ (by omega) (by omega) H15.out.reads H6.out.reads).mono ?_
  rintro e w26 ⟨rfl, hb26⟩
  have hb9 := hb26
  (try replace HA := Lib.hid (HA.out.below hb9 HA.out.lt))
  (try replace HO := Lib.hid (HO.out.below hb9 (Nat.le_refl _)))
  (try replace H6 := Lib.hid (H6.out.below hb9))
  (try replace H8 := Lib.hid (H8.out.below hb9))
  (try replace H9 := Lib.hid (H9.out.below hb9))
  (try replace H10 := Lib.hid (H10.out.below hb9))
  (try replace H13 := Lib.hid (H13.out.below hb9))
  (try replace H15 := Lib.hid (H15.out.below hb9))
  (try replace HKB := Lib.hid (HKB.out.below hb9))
  (try replace HKI := Lib.hid (HKI.out.below hb9))
  (try replace HX10 := Lib.hid (HX10.out.below hb9 HX10.out.lt))
  replace HB := Lib.hid (HB.out.trans (hb9.mono HB.out.size))
  clear hb9
  clear hb26
  have h10c := HX10.out.cell
  go_wp2_with fail
  refine (heldLine_marks _ _ y ga10 gb10 1 _ (by omega) (by omega) (by omega) (by omega) HKB.out HKI.out).mono ?_
  rintro e w27 ⟨rfl, hb27⟩
  have hb9 := hb27
  (try replace HA := Lib.hid (HA.out.below hb9 HA.out.lt))
  (try replace HO := Lib.hid (HO.out.below hb9 (Nat.le_refl _)))
  (try replace H6 := Lib.hid (H6.out.below hb9))
  (try replace H8 := Lib.hid (H8.out.below hb9))
  (try replace H9 := Lib.hid (H9.out.below hb9))
  (try replace H10 := Lib.hid (H10.out.below hb9))
  (try replace H13 := Lib.hid (H13.out.below hb9))
  (try replace H15 := Lib.hid (H15.out.below hb9))
  (try replace HKB := Lib.hid (HKB.out.below hb9))
  (try replace HKI := Lib.hid (HKI.out.below hb9))
  (try replace HX10 := Lib.hid (HX10.out.below hb9 HX10.out.lt))
  replace HB := Lib.hid (HB.out.trans (hb9.mono HB.out.size))
  clear hb9
  clear hb27
  go_wp2_with fail
  go_ret
  exact ⟨rfl, HB.out⟩
end Go.Proofs.Ytbachpfgakjncaa
