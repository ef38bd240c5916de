/-
  Walks of the helpers of the exact laws on lines: a line's copy, sizes, equality.
-/
import Derived.Test.YtbachpfgakjncaaEa
namespace Go.Proofs.Ytbachpfgakjncaa
open Go.RowKit

theorem toBlockS_BL (v : Value) (n : Nat) (N : Nat → Int) (I O : Nat → Bool) (w : World) (hn : n ≤ 1000000000000) (hv : BL w v n N I O) :
    Calls Try.prog 56 #[v] w fun e w' => ∃ g c', e = .returned (.slice (some ⟨g, 0, none⟩) n c') ∧ w.heap.size ≤ g ∧ Own w' g c' n 3 75 (bkF N I O) ∧ Below w.heap.size w w' := by
  rcases hv with ⟨b, o, c, rfl, h⟩ | ⟨rfl, ao, co, rfl⟩
  · exact toBlockS_any b o n c N I O w hn h
  · have hmk : ∀ w, (Instr.makeSlice 23 (.int .i64 0) (.int .i64 0)).run Try.prog w = .ok (.slice (some ⟨w.heap.size, 0, none⟩) 0 0) (w.alloc (.cells (madeCells #[.int .i64 0, .bool false, .bool false] (0 * 3)) 75)) := fun w => run_mk elBk 0 0 (Nat.le_refl _) (by omega) (by omega) w
    go_enter Try.func56, Try.ntmps56
    go_wp2_with fail
    go_loop [4] (fun i => i = .int .i64 0) (fun _ => 0)
    case atStart => rfl
    case round =>
      subst hrel
      go_wp2_with fail
      go_ret
      exact ⟨_, _, rfl, Nat.le_refl _, (own_bk0 w 0 (by omega)).congr (fun i hi => by omega), (Below.refl _ _).alloc (Nat.le_refl _) _⟩
theorem toMoveS_ML (v : Value) (n : Nat) (M : Nat → Int) (L : Nat → ByteArray) (w : World) (hn : n ≤ 1000000000000) (hv : MLs w v n M L) :
    Calls Try.prog 37 #[v] w fun e w' => ∃ g c', e = .returned (.slice (some ⟨g, 0, none⟩) n c') ∧ w.heap.size ≤ g ∧ Own w' g c' n 2 34 (mvF M L) ∧ Below w.heap.size w w' := by
  rcases hv with ⟨b, o, c, rfl, h⟩ | ⟨rfl, ao, co, rfl⟩
  · exact toMoveS_any b o n c M L w hn h
  · have hmk : ∀ w, (Instr.makeSlice 28 (.int .i64 0) (.int .i64 0)).run Try.prog w = .ok (.slice (some ⟨w.heap.size, 0, none⟩) 0 0) (w.alloc (.cells (madeCells #[.int .i64 0, .string ⟨#[]⟩] (0 * 2)) 34)) := fun w => run_mk elMv 0 0 (Nat.le_refl _) (by omega) (by omega) w
    go_enter Try.func37, Try.ntmps37
    go_wp2_with fail
    go_loop [4] (fun i => i = .int .i64 0) (fun _ => 0)
    case atStart => rfl
    case round =>
      subst hrel
      go_wp2_with fail
      go_ret
      exact ⟨_, _, rfl, Nat.le_refl _, (own_mv0 w 0 (by omega)).congr (fun i hi => by omega), (Below.refl _ _).alloc (Nat.le_refl _) _⟩
/-- a line as an argument -/
def LnV (w : World) (v : Value) (x : Ln) : Prop := ∃ va vb, v = .agg #[va, vb] ∧ BL w va x.n x.N x.I x.O ∧ SL w vb x.m x.T
theorem LnV.keep {w w' : World} {v : Value} {x : Ln} (h : LnV w v x) (hb : Below w.heap.size w w') : LnV w' v x := by
  obtain ⟨va, vb, e, h1, h2⟩ := h
  exact ⟨va, vb, e, h1.keep hb, h2.keep hb⟩
set_option linter.unusedSimpArgs false in
theorem toLine_any (v : Value) (x : Ln) (w : World) (hn : x.n ≤ 1000000000000) (hm : x.m ≤ 1000000000000) (hv : LnV w v x) :
    Calls Try.prog 19 #[v] w fun e w' => ∃ u, e = .returned u ∧ LnO w.heap.size w' u x ∧ Below w.heap.size w w' := by
  obtain ⟨va, vb, rfl, h1, h2⟩ := hv
  have HB : Hid (∀ w', Below w.heap.size w w' → BL w' va x.n x.N x.I x.O) := fun w' hb => h1.keep hb
  have HT : Hid (∀ w', Below w.heap.size w w' → SL w' vb x.m x.T) := fun w' hb => h2.keep hb
  have HBB : Hid (∀ a b c, Below w.heap.size w (((w.alloc a).alloc b).alloc c)) := fun a b c => ((below_all _ _).alloc (by simp) _).alloc (by simp; omega) _
  clear h1 h2
  go_enter Try.func19, Try.ntmps19
  go_wp2_with fail
  refine (toBlockS_BL va x.n x.N x.I x.O _ hn (HB.out _ (HBB.out _ _ _))).mono ?_
  rintro e w1 ⟨g1, c1, rfl, hg1, ho1, hb1⟩
  have HA : Hid (Bx w1 w.heap.size 40 #[va, vb]) := ((((Bx.new w _ _).alloc _).alloc _)).below hb1 (by simp; omega)
  have HR : Hid (Bx w1 (w.heap.size + 1) 26 #[.slice none 0 0, .slice none 0 0]) := ((Bx.newAt (by simp)).alloc _).below hb1 (by simp)
  have HX : Hid (Bx w1 (w.heap.size + 1 + 1) 26 #[.slice none 0 0, .slice none 0 0]) := (Bx.newAt (by simp)).below hb1 (by simp)
  have HB1 := Lib.hid ((HBB.out _ _ _).trans (hb1.mono (by simp; omega)))
  have HO1 := Lib.hid ho1
  simp only [World.size_alloc] at hg1
  have hl1 := ho1.lt
  have hxl := HX.out.lt
  have hac := HA.out.cell
  have hxc := HX.out.cell
  have hxf := HX.out.free
  clear hb1 ho1
  go_wp2_with fail
  have HX2 : Hid (Bx (w1.setCell ⟨w.heap.size + 1 + 1, 0, none⟩ (.slice (some ⟨g1, 0, none⟩) x.n c1)) (w.heap.size + 1 + 1) 26 #[.slice (some ⟨g1, 0, none⟩) x.n c1, .slice none 0 0]) := by
    have := HX.out.set 0 (.slice (some ⟨g1, 0, none⟩) x.n c1)
    simpa [Hid] using this
  have HB2 : Hid (Below w.heap.size w (w1.setCell ⟨w.heap.size + 1 + 1, 0, none⟩ (.slice (some ⟨g1, 0, none⟩) x.n c1))) := HB1.out.setCell (by dsimp only; omega) _
  have HR2 : Hid (Bx (w1.setCell ⟨w.heap.size + 1 + 1, 0, none⟩ (.slice (some ⟨g1, 0, none⟩) x.n c1)) (w.heap.size + 1) 26 #[.slice none 0 0, .slice none 0 0]) := HR.out.setOther (by dsimp only; omega) _
  have HO2 : Hid (Own (w1.setCell ⟨w.heap.size + 1 + 1, 0, none⟩ (.slice (some ⟨g1, 0, none⟩) x.n c1)) g1 c1 x.n 3 75 (bkF x.N x.I x.O)) := HO1.out.setOther (by dsimp only; omega) _
  generalize w1.setCell ⟨w.heap.size + 1 + 1, 0, none⟩ (.slice (some ⟨g1, 0, none⟩) x.n c1) = W2 at *
  refine (toIntS_SL vb x.m x.T _ hm (HT.out _ HB2.out)).mono ?_
  rintro e w3 ⟨g2, c2, rfl, hg2, ho2, hb3⟩
  have HX3 := Lib.hid (HX2.out.below hb3 HX2.out.lt)
  have HR3 := Lib.hid (HR2.out.below hb3 HR2.out.lt)
  have HO3 := Lib.hid (HO2.out.below hb3 HO2.out.lt)
  have HB3 := Lib.hid (HB2.out.trans (hb3.mono HB2.out.size))
  have HO4 := Lib.hid ho2
  have hl2 := HO2.out.lt
  have hl3 := HX2.out.lt
  clear hb3 ho2 hac hxc hxf
  have hxc := HX3.out.cell
  have hxf := HX3.out.free
  have hrc := HR3.out.cell
  have hrf := HR3.out.free
  have hne : w.heap.size + 1 + 1 ≠ w.heap.size + 1 := by omega
  go_wp2_with fail
  exact bodyPost_ret (v := .agg #[.slice (some ⟨g1, 0, none⟩) x.n c1, .slice (some ⟨g2, 0, none⟩) x.m c2]) (by simp [results, Try.results19, go_sem, hrc]) rfl ⟨_, rfl, ⟨g1, c1, g2, c2, rfl, ((HO3.out.setOther (by dsimp only; omega) _).setOther (by dsimp only; omega) _).setOther (by dsimp only; omega) _, ((HO4.out.setOther (by dsimp only; omega) _).setOther (by dsimp only; omega) _).setOther (by dsimp only; omega) _, by omega, by omega, by omega⟩,
    ((HB3.out.setCell (by dsimp only; omega) _).setCell (by dsimp only; omega) _).setCell (by dsimp only; omega) _⟩
/-- sizes -/
def szR (n : Nat) (left : Int) : Int := if left - n < 0 then -1 else left - n
theorem szBlockS_any (ao : Option Addr) (n c : Nat) (left : Int) (w : World) (hl : 0 ≤ left ∧ left ≤ 1048576) (hn : n ≤ 9223372036854775807) :
    Calls Try.prog 54 #[.slice ao n c, .int .i64 left] w fun e w' => e = .returned (.int .i64 (szR n left)) ∧ w = w' := by
  by_cases h : left - n < 0
  · have HE : Hid (szR n left = -1) := if_pos h
    go_enter Try.func54, Try.ntmps54
    go_wp2_with fail
    go_ret
    exact ⟨retI HE.out.symm, rfl⟩
  · have HE : Hid (szR n left = left - n) := if_neg h
    go_enter Try.func54, Try.ntmps54
    go_wp2_with fail
    go_ret
    exact ⟨retI HE.out.symm, rfl⟩
theorem szIntSL_any (ao : Option Addr) (n c : Nat) (left : Int) (w : World) (hl : 0 ≤ left ∧ left ≤ 1048576) (hn : n ≤ 9223372036854775807) :
    Calls Try.prog 55 #[.slice ao n c, .int .i64 left] w fun e w' => e = .returned (.int .i64 (szR n left)) ∧ w = w' := by
  by_cases h : left - n < 0
  · have HE : Hid (szR n left = -1) := if_pos h
    go_enter Try.func55, Try.ntmps55
    go_wp2_with fail
    go_ret
    exact ⟨retI HE.out.symm, rfl⟩
  · have HE : Hid (szR n left = left - n) := if_neg h
    go_enter Try.func55, Try.ntmps55
    go_wp2_with fail
    go_ret
    exact ⟨retI HE.out.symm, rfl⟩
theorem szR_add {n m : Nat} {left : Int} : szR m (left - n) = szR (n + m) left := by
  unfold szR
  rw [show ((n + m : Nat) : Int) = n + m by omega, show left - ((n : Int) + m) = left - n - m by omega]
theorem szR_neg {n m : Nat} {left : Int} (h : left - n < 0) : szR (n + m) left = -1 := by
  unfold szR
  rw [if_pos (by omega)]
set_option linter.unusedSimpArgs false in
theorem szLine_any (v : Value) (x : Ln) (left : Int) (w : World) (hl : 0 ≤ left ∧ left ≤ 1048576) (hn : x.n ≤ 9223372036854775807) (hm : x.m ≤ 9223372036854775807) (hv : LnV w v x) :
    Calls Try.prog 18 #[v, .int .i64 left] w fun e w' => e = .returned (.int .i64 (szR (x.n + x.m) left)) ∧ Below w.heap.size w w' := by
  obtain ⟨va, vb, rfl, h1, h2⟩ := hv
  obtain ⟨ao, ca, rfl⟩ := h1.shape
  obtain ⟨bo, cb, rfl⟩ := h2.shape
  clear h1 h2
  have HBB : Hid (∀ a, Below w.heap.size w (w.alloc a)) := fun a => below_all _ _
  by_cases h : left - x.n < 0
  · have HE : Hid (szR x.n left = -1) := if_pos h
    have HF := Lib.hid (szR_neg (m := x.m) h)
    clear h
    go_enter Try.func18, Try.ntmps18
    go_wp2_with fail
    refine (szBlockS_any _ _ _ _ _ hl hn).mono ?_
    rintro e w' ⟨rfl, rfl⟩
    rw [HE.out]
    go_wp2_with fail
    go_ret
    exact ⟨retI HF.out.symm, HBB.out _⟩
  · have HE : Hid (szR x.n left = left - x.n) := if_neg h
    have HF := Lib.hid (szR_add (n := x.n) (m := x.m) (left := left))
    by_cases h2 : left - x.n - x.m < 0
    · have HG : Hid (szR x.m (left - x.n) = -1) := if_pos h2
      go_enter Try.func18, Try.ntmps18
      go_wp2_with fail
      refine (szBlockS_any _ _ _ _ _ hl hn).mono ?_
      rintro e w' ⟨rfl, rfl⟩
      rw [HE.out]
      go_wp2_with fail
      refine (szIntSL_any _ _ _ _ _ (by omega) hm).mono ?_
      rintro e w' ⟨rfl, rfl⟩
      rw [HG.out]
      go_wp2_with fail
      go_ret
      exact ⟨retI (by rw [← HF.out, HG.out]), HBB.out _⟩
    · have HG : Hid (szR x.m (left - x.n) = left - x.n - x.m) := if_neg h2
      go_enter Try.func18, Try.ntmps18
      go_wp2_with fail
      refine (szBlockS_any _ _ _ _ _ hl hn).mono ?_
      rintro e w' ⟨rfl, rfl⟩
      rw [HE.out]
      go_wp2_with fail
      refine (szIntSL_any _ _ _ _ _ (by omega) hm).mono ?_
      rintro e w' ⟨rfl, rfl⟩
      rw [HG.out]
      go_wp2_with fail
      go_ret
      exact ⟨retI (by rw [← HF.out, HG.out]), HBB.out _⟩
set_option linter.unusedSimpArgs false in
theorem szMove_any (n : Int) (s : ByteArray) (left : Int) (w : World) (hl : 0 ≤ left ∧ left ≤ 1048576) (hs : s.size ≤ 9223372036854775807) :
    Calls Try.prog 74 #[.agg #[.int .i64 n, .string s], .int .i64 left] w fun e w' => e = .returned (.int .i64 (szR s.size left)) ∧ Below w.heap.size w w' := by
  have HBB : Hid (∀ a, Below w.heap.size w (w.alloc a)) := fun a => below_all _ _
  by_cases h : left - s.size < 0
  · have HE : Hid (szR s.size left = -1) := if_pos h
    go_enter Try.func74, Try.ntmps74
    go_wp2_with fail
    go_ret
    exact ⟨retI HE.out.symm, HBB.out _⟩
  · have HE : Hid (szR s.size left = left - s.size) := if_neg h
    go_enter Try.func74, Try.ntmps74
    go_wp2_with fail
    go_ret
    exact ⟨retI HE.out.symm, HBB.out _⟩
/-- what szMoveS says -/
def SzM (q : Nat) (left r : Int) : Prop := r = -1 ∨ (0 ≤ r ∧ r ≤ left ∧ (q : Int) ≤ left)
set_option linter.unusedSimpArgs false in
theorem szMoveS_any (v : Value) (q : Nat) (M : Nat → Int) (L : Nat → ByteArray) (left : Int) (w : World) (hl : 0 ≤ left ∧ left ≤ 1048576) (hq : q ≤ 9223372036854775807) (hs : ∀ k, k < q → (L k).size ≤ 9223372036854775807) (hv : MLs w v q M L) :
    Calls Try.prog 35 #[v, .int .i64 left] w fun e w' => (∃ r, e = .returned (.int .i64 r) ∧ SzM q left r) ∧ Below w.heap.size w w' := by
  obtain ⟨ao, c, rfl⟩ := hv.shape
  have HMV : Hid (∀ w', Below w.heap.size w w' → MLs w' (.slice ao q c) q M L) := fun w' hb => hv.keep hb
  have HS := Lib.hid hs
  clear hv hs
  by_cases h : left - q < 0
  · have HE : Hid (SzM q left (-1)) := .inl rfl
    go_enter Try.func35, Try.ntmps35
    go_wp2_with fail
    go_ret
    exact ⟨⟨_, rfl, HE.out⟩, Below.refl _ _⟩
  · go_enter Try.func35, Try.ntmps35
    go_wp2_with fail
    go_loopw [1, 5] (fun s i wr => ∃ k : Nat, ∃ r : Int, k ≤ q ∧ i = .int .i64 k ∧ s = .int .i64 r ∧ 0 ≤ r ∧ r ≤ left ∧ Hid (Below w.heap.size w wr)) (fun _ i _ => q - (intOf i).toNat)
    case atStart => exact ⟨0, _, Nat.zero_le _, rfl, rfl, by omega, by omega, Below.refl _ _⟩
    case round =>
      obtain ⟨k, r, hk, rfl, rfl, hr0, hr1, HB⟩ := hrel
      by_cases hlt : k < q
      · rcases HMV.out _ HB.out with ⟨b, o, c', e, hm⟩ | ⟨h0, _⟩
        · cases e
          obtain ⟨c0, c1⟩ := hm.at k hlt
          have HSk := Lib.hid (HS.out k hlt)
          clear hm
          by_cases h2 : r - (L k).size < 0
          · have HG : Hid (szR (L k).size r = -1) := if_pos h2
            go_wp2_with fail
            refine (szMove_any _ _ _ _ (by omega) HSk.out).mono ?_
            rintro e w2 ⟨rfl, hb⟩
            have HB2 := Lib.hid (HB.out.trans (hb.mono HB.out.size))
            rw [HG.out]
            clear hb
            go_wp2_with fail
            go_ret
            exact ⟨⟨_, rfl, .inl rfl⟩, HB2.out⟩
          · have HG : Hid (szR (L k).size r = r - (L k).size) := if_neg h2
            go_wp2_with fail
            refine (szMove_any _ _ _ _ (by omega) HSk.out).mono ?_
            rintro e w2 ⟨rfl, hb⟩
            have HB2 := Lib.hid (HB.out.trans (hb.mono HB.out.size))
            rw [HG.out]
            clear hb
            go_wp2_with fail
            go_roundw
            case rel => exact ⟨k + 1, _, by omega, by go_num, rfl, by omega, by omega, HB2⟩
            case measure => simp [intOf]; omega
        · omega
      · obtain e : k = q := by omega
        subst e
        go_wp2_with fail
        go_ret
        exact ⟨⟨_, rfl, .inr ⟨hr0, hr1, by omega⟩⟩, HB.out⟩
end Go.Proofs.Ytbachpfgakjncaa
