/-
  Walks on blocks: BlockStep of the program and of the reference, the reference's BlockPossible.
-/
import Derived.Test.YtokddeoliieofaaBu
namespace Go.Proofs.Ytokddeoliieofaa
open Go.RowKit

theorem specPossible_any (n : Int) (i o : Bool) (w : World) :
    Calls Try.prog 103 #[.agg #[.int .i64 n, .bool i, .bool o]] w fun e w' => e = .returned (.bool (decide (stI n i o < 5))) ∧ Below w.heap.size w w' := by
  have HBB : Hid (∀ a, Below w.heap.size w (w.alloc a)) := fun a => below_all _ _
  by_cases h0 : n = 0
  · subst h0
    have HI : Hid (inB 0 0 2 = true) := rfl
    cases i <;> cases o
    · have HV : Hid (decide (stI 0 false false < 5) = true) := rfl
      go_enter Try.func103, Try.ntmps103
      go_wp2_with fail
      refine (l6In_any _ _ _ _).mono ?_
      rintro e w' ⟨rfl, rfl⟩
      rw [HI.out]
      go_wp2_with fail
      go_ret
      exact ⟨by rw [HV.out]; rfl, HBB.out _⟩
    · have HV : Hid (decide (stI 0 false true < 5) = true) := rfl
      go_enter Try.func103, Try.ntmps103
      go_wp2_with fail
      refine (l6In_any _ _ _ _).mono ?_
      rintro e w' ⟨rfl, rfl⟩
      rw [HI.out]
      go_wp2_with fail
      go_ret
      exact ⟨by rw [HV.out]; rfl, HBB.out _⟩
    · have HV : Hid (decide (stI 0 true false < 5) = false) := rfl
      go_enter Try.func103, Try.ntmps103
      go_wp2_with fail
      refine (l6In_any _ _ _ _).mono ?_
      rintro e w' ⟨rfl, rfl⟩
      rw [HI.out]
      go_wp2_with fail
      go_ret
      exact ⟨by rw [HV.out]; rfl, HBB.out _⟩
    · have HV : Hid (decide (stI 0 true true < 5) = false) := rfl
      go_enter Try.func103, Try.ntmps103
      go_wp2_with fail
      refine (l6In_any _ _ _ _).mono ?_
      rintro e w' ⟨rfl, rfl⟩
      rw [HI.out]
      go_wp2_with fail
      go_ret
      exact ⟨by rw [HV.out]; rfl, HBB.out _⟩
  by_cases h1 : n = 1
  · subst h1
    have HI : Hid (inB 1 0 2 = true) := rfl
    clear h0
    cases i <;> cases o
    · have HV : Hid (decide (stI 1 false false < 5) = true) := rfl
      go_enter Try.func103, Try.ntmps103
      go_wp2_with fail
      refine (l6In_any _ _ _ _).mono ?_
      rintro e w' ⟨rfl, rfl⟩
      rw [HI.out]
      go_wp2_with fail
      go_ret
      exact ⟨by rw [HV.out]; rfl, HBB.out _⟩
    · have HV : Hid (decide (stI 1 false true < 5) = false) := rfl
      go_enter Try.func103, Try.ntmps103
      go_wp2_with fail
      refine (l6In_any _ _ _ _).mono ?_
      rintro e w' ⟨rfl, rfl⟩
      rw [HI.out]
      go_wp2_with fail
      go_ret
      exact ⟨by rw [HV.out]; rfl, HBB.out _⟩
    · have HV : Hid (decide (stI 1 true false < 5) = false) := rfl
      go_enter Try.func103, Try.ntmps103
      go_wp2_with fail
      refine (l6In_any _ _ _ _).mono ?_
      rintro e w' ⟨rfl, rfl⟩
      rw [HI.out]
      go_wp2_with fail
      go_ret
      exact ⟨by rw [HV.out]; rfl, HBB.out _⟩
    · have HV : Hid (decide (stI 1 true true < 5) = false) := rfl
      go_enter Try.func103, Try.ntmps103
      go_wp2_with fail
      refine (l6In_any _ _ _ _).mono ?_
      rintro e w' ⟨rfl, rfl⟩
      rw [HI.out]
      go_wp2_with fail
      go_ret
      exact ⟨by rw [HV.out]; rfl, HBB.out _⟩
  by_cases h2 : n = 2
  · subst h2
    have HI : Hid (inB 2 0 2 = true) := rfl
    clear h0 h1
    cases i <;> cases o
    · have HV : Hid (decide (stI 2 false false < 5) = true) := rfl
      go_enter Try.func103, Try.ntmps103
      go_wp2_with fail
      refine (l6In_any _ _ _ _).mono ?_
      rintro e w' ⟨rfl, rfl⟩
      rw [HI.out]
      go_wp2_with fail
      go_ret
      exact ⟨by rw [HV.out]; rfl, HBB.out _⟩
    · have HV : Hid (decide (stI 2 false true < 5) = false) := rfl
      go_enter Try.func103, Try.ntmps103
      go_wp2_with fail
      refine (l6In_any _ _ _ _).mono ?_
      rintro e w' ⟨rfl, rfl⟩
      rw [HI.out]
      go_wp2_with fail
      go_ret
      exact ⟨by rw [HV.out]; rfl, HBB.out _⟩
    · have HV : Hid (decide (stI 2 true false < 5) = true) := rfl
      go_enter Try.func103, Try.ntmps103
      go_wp2_with fail
      refine (l6In_any _ _ _ _).mono ?_
      rintro e w' ⟨rfl, rfl⟩
      rw [HI.out]
      go_wp2_with fail
      go_ret
      exact ⟨by rw [HV.out]; rfl, HBB.out _⟩
    · have HV : Hid (decide (stI 2 true true < 5) = false) := rfl
      go_enter Try.func103, Try.ntmps103
      go_wp2_with fail
      refine (l6In_any _ _ _ _).mono ?_
      rintro e w' ⟨rfl, rfl⟩
      rw [HI.out]
      go_wp2_with fail
      go_ret
      exact ⟨by rw [HV.out]; rfl, HBB.out _⟩
  · have HI : Hid (inB n 0 2 = false) := inB_false.2 (by omega)
    have HV : Hid (decide (stI n i o < 5) = false) := by
      have e : stI n i o = 5 := stI_no fun j hj => by
        have h5 : j = 0 ∨ j = 1 ∨ j = 2 ∨ j = 3 ∨ j = 4 := by omega
        have a0 : ¬ (0 : Int) = n := fun h => h0 h.symm
        have a1 : ¬ (1 : Int) = n := fun h => h1 h.symm
        have a2 : ¬ (2 : Int) = n := fun h => h2 h.symm
        rcases h5 with rfl | rfl | rfl | rfl | rfl <;> simp [bkE, stB, a0, a1, a2]
      rw [e]; rfl
    clear h0 h1 h2
    go_enter Try.func103, Try.ntmps103
    go_wp2_with fail
    refine (l6In_any _ _ _ _).mono ?_
    rintro e w' ⟨rfl, rfl⟩
    rw [HI.out]
    go_wp2_with fail
    go_ret
    exact ⟨by rw [HV.out]; rfl, HBB.out _⟩
theorem bsI_size {n : Int} {i o : Bool} {s : ByteArray} (h : ¬ s.size = 1) : bsI n i o s = 5 := if_neg h
theorem bsI_one {n : Int} {i o : Bool} {s : ByteArray} (h : s.size = 1) : bsI n i o s = nx (stI n i o) (bt s 0) := if_pos h
theorem bsI_no {n : Int} {i o : Bool} {s : ByteArray} (h : ¬ stI n i o < 5) : bsI n i o s = 5 := by
  unfold bsI
  split
  · obtain ⟨k, hk⟩ : ∃ k, stI n i o = k + 5 := ⟨stI n i o - 5, by omega⟩
    rw [hk]; rfl
  · rfl
/-- what BlockStep hands back -/
def BsRes (j : Nat) (w : World) (e : Ending) (w' : World) : Prop := e = .returned (.tuple #[bsV j, .bool (decide (j < 5))]) ∧ Below w.heap.size w w'
/-- the boxes of a step -/
structure BsM (w wr : World) (n : Int) (i o : Bool) : Prop where
  box : Bx wr w.heap.size 46 #[.int .i64 n, .bool i, .bool o]
  res : Bx wr (w.heap.size + 1) 46 #[.int .i64 0, .bool false, .bool false]
  bl : Below w.heap.size w wr
theorem BsM.below {w wr w' : World} {n : Int} {i o : Bool} {B : Nat} (h : BsM w wr n i o) (hb : Below B wr w') (hB : B = wr.heap.size) : BsM w w' n i o := by
  subst hB
  exact ⟨h.box.below hb h.box.lt, h.res.below hb h.res.lt, h.bl.trans (hb.mono h.bl.size)⟩
theorem BsM.new (w : World) (n : Int) (i o : Bool) : BsM w ((w.alloc (.cells #[.int .i64 n, .bool i, .bool o] 46)).alloc (.cells #[.int .i64 0, .bool false, .bool false] 46)) n i o :=
  ⟨(Bx.new _ _ _).alloc _, Bx.newAt (by simp), ((Below.refl _ _).alloc (Nat.le_refl _) _).alloc (by simp) _⟩
theorem BsM.done {w wr : World} {n : Int} {i o : Bool} (h : BsM w wr n i o) (a b c : Value) : Below w.heap.size w (((wr.setCell ⟨w.heap.size + 1, 0, none⟩ a).setCell ⟨w.heap.size + 1, 1, none⟩ b).setCell ⟨w.heap.size + 1, 2, none⟩ c) :=
  ((h.bl.setCell (by dsimp only; omega) _).setCell (by dsimp only; omega) _).setCell (by dsimp only; omega) _
set_option linter.unusedSimpArgs false in
set_option maxRecDepth 100000 in
set_option maxHeartbeats 4000000 in
theorem implStep_any (n : Int) (i o : Bool) (s : ByteArray) (w : World) :
    Calls Try.prog 123 #[.agg #[.int .i64 n, .bool i, .bool o], .string s] w (BsRes (bsI n i o s) w) := by
  have HM0 := Lib.hid (BsM.new w n i o)
  by_cases h5 : ¬ stI n i o < 5
  · have HJ := Lib.hid (bsI_no (s := s) h5)
    have HD : Hid (decide (stI n i o < 5) = false) := decide_eq_false h5
    clear h5
    go_enter Try.func123, Try.ntmps123
    go_wp2_with fail
    refine (instr_any n i o _).mono ?_
    rintro e w1 ⟨rfl, hb⟩
    have HM := Lib.hid (HM0.out.below hb rfl)
    have hrc := HM.out.res.cell
    have hrf := HM.out.res.free
    clear hb
    rw [HD.out]
    go_wp2_with fail
    exact bodyPost_ret (v := .tuple #[.agg #[.int .i64 0, .bool false, .bool false], .bool false]) (by simp [results, Try.results123, go_sem, hrc]) rfl ⟨by rw [HJ.out]; rfl, HM.out.done _ _ _⟩
  replace h5 := Decidable.not_not.1 h5
  have HD : Hid (decide (stI n i o < 5) = true) := decide_eq_true h5
  have HIV := Lib.hid (inV_at h5)
  by_cases h1 : ¬ s.size = 1
  · have HJ := Lib.hid (bsI_size (n := n) (i := i) (o := o) h1)
    have g1 : ((s.size : Int) != 1) = true := by simp; omega
    clear h1
    go_enter Try.func123, Try.ntmps123
    go_wp2_with fail
    refine (instr_any n i o _).mono ?_
    rintro e w1 ⟨rfl, hb⟩
    have HM := Lib.hid (HM0.out.below hb rfl)
    have hrc := HM.out.res.cell
    have hrf := HM.out.res.free
    clear hb
    rw [HD.out]
    go_wp2_with fail
    exact bodyPost_ret (v := .tuple #[.agg #[.int .i64 0, .bool false, .bool false], .bool false]) (by simp [results, Try.results123, go_sem, hrc]) rfl ⟨by rw [HJ.out]; rfl, HM.out.done _ _ _⟩
  replace h1 := Decidable.not_not.1 h1
  have HB1 := Lib.hid (bsI_one (n := n) (i := i) (o := o) h1)
  have g1 : ((s.size : Int) != 1) = false := by simp; omega
  have hs0 : 0 < s.size := by omega
  have hs0' : (0 : Int) < (s.size : Int) := by omega
  have hbt := bt_at hs0
  clear h1
  go_enter Try.func123, Try.ntmps123
  go_wp2_with fail
  refine (instr_any n i o _).mono ?_
  rintro e w1 ⟨rfl, hb⟩
  have HM := Lib.hid (HM0.out.below hb rfl)
  have hrc := HM.out.res.cell
  have hrf := HM.out.res.free
  clear hb
  rw [HD.out, HIV.out]
  go_wp2_with fail
  refine (stateBehind_any _ (bt s 0) _ h5).mono ?_
  rintro e w2 ⟨rfl, rfl⟩
  have hle := nx_le (stI n i o) (bt s 0)
  have h6 : nx (stI n i o) (bt s 0) = 0 ∨ nx (stI n i o) (bt s 0) = 1 ∨ nx (stI n i o) (bt s 0) = 2 ∨ nx (stI n i o) (bt s 0) = 3 ∨ nx (stI n i o) (bt s 0) = 4 ∨ nx (stI n i o) (bt s 0) = 5 := by omega
  clear hle
  rcases h6 with HNX | HNX | HNX | HNX | HNX | HNX <;> replace HNX := Lib.hid HNX
  · have HJ2 : Hid (bsI n i o s = 0) := by show _ = _; rw [HB1.out]; exact HNX.out
    have hv : Hid (sbV (stI n i o) (bt s 0) = ifV 0) := by show _ = _; unfold sbV; rw [HNX.out]; rfl
    have hme := fun (f : Nat) (w : World) => normalState_meth f w
    rw [hv.out, HNX.out]
    rw [show ifV 0 = .iface 140 (.agg #[]) from rfl]
    go_wp2_with fail
    refine (normalState_block _).mono ?_
    rintro e w3 ⟨rfl, hb⟩
    have HM3 := Lib.hid (HM.out.below hb rfl)
    clear hb hrc hrf
    have hrc := HM3.out.res.cell
    have hrf := HM3.out.res.free
    go_wp2_with fail
    exact bodyPost_ret (v := .tuple #[.agg #[.int .i64 0, .bool false, .bool false], .bool true]) (by simp [results, Try.results123, go_sem, hrc]) rfl ⟨by rw [HJ2.out]; rfl, HM3.out.done _ _ _⟩
  · have HJ2 : Hid (bsI n i o s = 1) := by show _ = _; rw [HB1.out]; exact HNX.out
    have hv : Hid (sbV (stI n i o) (bt s 0) = ifV 1) := by show _ = _; unfold sbV; rw [HNX.out]; rfl
    have hme := fun (f : Nat) (w : World) => offeredState_meth f w
    rw [hv.out, HNX.out]
    rw [show ifV 1 = .iface 141 (.agg #[]) from rfl]
    go_wp2_with fail
    refine (offeredState_block _).mono ?_
    rintro e w3 ⟨rfl, hb⟩
    have HM3 := Lib.hid (HM.out.below hb rfl)
    clear hb hrc hrf
    have hrc := HM3.out.res.cell
    have hrf := HM3.out.res.free
    go_wp2_with fail
    exact bodyPost_ret (v := .tuple #[.agg #[.int .i64 0, .bool false, .bool true], .bool true]) (by simp [results, Try.results123, go_sem, hrc]) rfl ⟨by rw [HJ2.out]; rfl, HM3.out.done _ _ _⟩
  · have HJ2 : Hid (bsI n i o s = 2) := by show _ = _; rw [HB1.out]; exact HNX.out
    have hv : Hid (sbV (stI n i o) (bt s 0) = ifV 2) := by show _ = _; unfold sbV; rw [HNX.out]; rfl
    have hme := fun (f : Nat) (w : World) => clearState_meth f w
    rw [hv.out, HNX.out]
    rw [show ifV 2 = .iface 142 (.agg #[]) from rfl]
    go_wp2_with fail
    refine (clearState_block _).mono ?_
    rintro e w3 ⟨rfl, hb⟩
    have HM3 := Lib.hid (HM.out.below hb rfl)
    clear hb hrc hrf
    have hrc := HM3.out.res.cell
    have hrf := HM3.out.res.free
    go_wp2_with fail
    exact bodyPost_ret (v := .tuple #[.agg #[.int .i64 1, .bool false, .bool false], .bool true]) (by simp [results, Try.results123, go_sem, hrc]) rfl ⟨by rw [HJ2.out]; rfl, HM3.out.done _ _ _⟩
  · have HJ2 : Hid (bsI n i o s = 3) := by show _ = _; rw [HB1.out]; exact HNX.out
    have hv : Hid (sbV (stI n i o) (bt s 0) = ifV 3) := by show _ = _; unfold sbV; rw [HNX.out]; rfl
    have hme := fun (f : Nat) (w : World) => insideState_meth f w
    rw [hv.out, HNX.out]
    rw [show ifV 3 = .iface 143 (.agg #[]) from rfl]
    go_wp2_with fail
    refine (insideState_block _).mono ?_
    rintro e w3 ⟨rfl, hb⟩
    have HM3 := Lib.hid (HM.out.below hb rfl)
    clear hb hrc hrf
    have hrc := HM3.out.res.cell
    have hrf := HM3.out.res.free
    go_wp2_with fail
    exact bodyPost_ret (v := .tuple #[.agg #[.int .i64 2, .bool true, .bool false], .bool true]) (by simp [results, Try.results123, go_sem, hrc]) rfl ⟨by rw [HJ2.out]; rfl, HM3.out.done _ _ _⟩
  · have HJ2 : Hid (bsI n i o s = 4) := by show _ = _; rw [HB1.out]; exact HNX.out
    have hv : Hid (sbV (stI n i o) (bt s 0) = ifV 4) := by show _ = _; unfold sbV; rw [HNX.out]; rfl
    have hme := fun (f : Nat) (w : World) => passedState_meth f w
    rw [hv.out, HNX.out]
    rw [show ifV 4 = .iface 144 (.agg #[]) from rfl]
    go_wp2_with fail
    refine (passedState_block _).mono ?_
    rintro e w3 ⟨rfl, hb⟩
    have HM3 := Lib.hid (HM.out.below hb rfl)
    clear hb hrc hrf
    have hrc := HM3.out.res.cell
    have hrf := HM3.out.res.free
    go_wp2_with fail
    exact bodyPost_ret (v := .tuple #[.agg #[.int .i64 2, .bool false, .bool false], .bool true]) (by simp [results, Try.results123, go_sem, hrc]) rfl ⟨by rw [HJ2.out]; rfl, HM3.out.done _ _ _⟩
  · have HJ : Hid (bsI n i o s = 5) := by show _ = _; rw [HB1.out]; exact HNX.out
    rw [HNX.out]
    go_wp2_with fail
    exact bodyPost_ret (v := .tuple #[.agg #[.int .i64 0, .bool false, .bool false], .bool false]) (by simp [results, Try.results123, go_sem, hrc]) rfl ⟨by rw [HJ.out]; rfl, HM.out.done _ _ _⟩
set_option linter.unusedSimpArgs false in
set_option maxRecDepth 100000 in
set_option maxHeartbeats 4000000 in
theorem specStep_any (n : Int) (i o : Bool) (s : ByteArray) (w : World) :
    Calls Try.prog 133 #[.agg #[.int .i64 n, .bool i, .bool o], .string s] w (BsRes (bsI n i o s) w) := by
  have HM0 := Lib.hid (BsM.new w n i o)
  by_cases h5 : ¬ stI n i o < 5
  · have HJ := Lib.hid (bsI_no (s := s) h5)
    have HD : Hid (decide (stI n i o < 5) = false) := decide_eq_false h5
    clear h5
    go_enter Try.func133, Try.ntmps133
    go_wp2_with fail
    refine (specPossible_any n i o _).mono ?_
    rintro e w1 ⟨rfl, hb⟩
    have HM := Lib.hid (HM0.out.below hb rfl)
    have hrc := HM.out.res.cell
    have hrf := HM.out.res.free
    clear hb
    rw [HD.out]
    go_wp2_with fail
    exact bodyPost_ret (v := .tuple #[.agg #[.int .i64 0, .bool false, .bool false], .bool false]) (by simp [results, Try.results133, go_sem, hrc]) rfl ⟨by rw [HJ.out]; rfl, HM.out.done _ _ _⟩
  replace h5 := Decidable.not_not.1 h5
  have HD : Hid (decide (stI n i o < 5) = true) := decide_eq_true h5
  by_cases h1 : ¬ s.size = 1
  · have HJ := Lib.hid (bsI_size (n := n) (i := i) (o := o) h1)
    have g1 : ((s.size : Int) != 1) = true := by simp; omega
    clear h1
    go_enter Try.func133, Try.ntmps133
    go_wp2_with fail
    refine (specPossible_any n i o _).mono ?_
    rintro e w1 ⟨rfl, hb⟩
    have HM := Lib.hid (HM0.out.below hb rfl)
    have hrc := HM.out.res.cell
    have hrf := HM.out.res.free
    clear hb
    rw [HD.out]
    go_wp2_with fail
    exact bodyPost_ret (v := .tuple #[.agg #[.int .i64 0, .bool false, .bool false], .bool false]) (by simp [results, Try.results133, go_sem, hrc]) rfl ⟨by rw [HJ.out]; rfl, HM.out.done _ _ _⟩
  replace h1 := Decidable.not_not.1 h1
  have HB1 := Lib.hid (bsI_one (n := n) (i := i) (o := o) h1)
  have g1 : ((s.size : Int) != 1) = false := by simp; omega
  have hs0 : 0 < s.size := by omega
  have hs0' : (0 : Int) < (s.size : Int) := by omega
  have hbt := bt_at hs0
  have hla : Calls Try.prog 104 #[.agg #[.int .i64 n, .bool i, .bool o], .int .u8 (bt s 0)] = Calls Try.prog 104 #[bkA (stI n i o), .int .u8 (bt s 0)] := by
    obtain ⟨e1, e2, e3⟩ := stI_B rfl h5
    unfold bkA
    rw [← e1, ← e2, ← e3]
  have HL : Hid (∀ W, Calls Try.prog 104 #[.agg #[.int .i64 n, .bool i, .bool o], .int .u8 (bt s 0)] W fun e w' => e = .returned (.tuple #[bsV (bsI n i o s), .bool (decide (bsI n i o s < 5))]) ∧ Below W.heap.size W w') := fun W => by
    rw [hla, HB1.out]
    exact l3Step_any _ _ _ h5
  have hbv : ∃ a b c, bsV (bsI n i o s) = .agg #[.int .i64 a, .bool b, .bool c] := by
    unfold bsV
    split
    · exact ⟨_, _, _, rfl⟩
    · exact ⟨_, _, _, rfl⟩
  obtain ⟨a, b, c, hbv⟩ := hbv
  have HBV := Lib.hid hbv
  clear h1 hla hbv
  go_enter Try.func133, Try.ntmps133
  go_wp2_with fail
  refine (specPossible_any n i o _).mono ?_
  rintro e w1 ⟨rfl, hb⟩
  have HM := Lib.hid (HM0.out.below hb rfl)
  have hbc := HM.out.box.cell
  clear hb
  rw [HD.out]
  go_wp2_with fail
  refine wp_region_held_drew (S := (fun w' => w'.cell? ⟨w.heap.size, 0, none⟩ = some (.int .i64 n) ∧ w'.cell? ⟨w.heap.size, 1, none⟩ = some (.bool i) ∧ w'.cell? ⟨w.heap.size, 2, none⟩ = some (.bool o))) (by kernel_rfl) ?_ (fun hHeld => ?_)
  · try dsimp only
    go_keep
  refine wpAnyH_take (i := 0) (oi := ?_) (v := ?_) ?_ (by kernel_rfl) (by kernel_rfl) (by kernel_rfl) ?_ ?_ (by assumption) ?_
  rotate_left 2
  · simp only [List.getElem?_toArray, List.getElem?_cons_succ, List.getElem?_cons_zero]; rfl
  · exact fun _ _ _ h => h
  · first
      | (refine Or.inr ⟨?_, ?_⟩ <;> rfl)
      | (refine Or.inl ⟨?_, ?_⟩; · rfl
         intro w hSw; (try dsimp only at hSw); go_simp; (try with_reducible rfl); done)
  try simp only [Act.put, List.setIfInBounds_toArray, List.set_cons_zero, List.set_cons_succ]
  refine wpAnyH_take (i := 1) (oi := ?_) (v := ?_) ?_ (by kernel_rfl) (by kernel_rfl) (by kernel_rfl) ?_ ?_ (by assumption) ?_
  rotate_left 2
  · simp only [List.getElem?_toArray, List.getElem?_cons_succ, List.getElem?_cons_zero]; rfl
  · exact fun _ _ _ h => h
  · first
      | (refine Or.inr ⟨?_, ?_⟩ <;> rfl)
      | (refine Or.inl ⟨?_, ?_⟩; · rfl
         intro w hSw; (try dsimp only at hSw); go_simp; (try with_reducible rfl); done)
  try simp only [Act.put, List.setIfInBounds_toArray, List.set_cons_zero, List.set_cons_succ]
  refine wpAnyH_take (i := 2) (oi := ?_) (v := ?_) ?_ (by kernel_rfl) (by kernel_rfl) (by kernel_rfl) ?_ ?_ (by assumption) ?_
  rotate_left 2
  · simp only [List.getElem?_toArray, List.getElem?_cons_succ, List.getElem?_cons_zero]; rfl
  · exact fun _ _ _ h => h
  · first
      | (refine Or.inr ⟨?_, ?_⟩ <;> rfl)
      | (refine Or.inl ⟨?_, ?_⟩; · rfl
         intro w hSw; (try dsimp only at hSw); go_simp; (try with_reducible rfl); done)
  try simp only [Act.put, List.setIfInBounds_toArray, List.set_cons_zero, List.set_cons_succ]
  refine wpAnyH_ready (rs := [3]) (by kernel_rfl) (by simp) ?_
  refine AllReadyH.cons (o := ?_) ?_ (fun K hK => ?_) AllReadyH.nil
  rotate_left 1
  · simp only [List.getElem?_toArray, List.getElem?_cons_succ, List.getElem?_cons_zero]; rfl
  go_simp
  go_at_call 104
  go_must (refine Calls.mono (HL.out _) ?_)
  rintro e w2 ⟨rfl, hb⟩
  rw [HBV.out]
  have HM2 := Lib.hid ((HM.out.below (B := w1.heap.size) (Below.refl _ w1).drew rfl).below hb rfl)
  clear hb hbc
  have hbc := HM2.out.box.cell
  have hrc := HM2.out.res.cell
  have hrf := HM2.out.res.free
  refine hK.out _ _ ?_ (fun hHeld => ?_)
  · try dsimp only
    go_keep
  clear hK K
  try simp only [Act.put, List.setIfInBounds_toArray, List.set_cons_zero, List.set_cons_succ]
  refine wpAnyH_take (i := 4) (oi := ?_) (v := ?_) ?_ (by kernel_rfl) (by kernel_rfl) (by kernel_rfl) ?_ ?_ (by assumption) ?_
  rotate_left 2
  · simp only [List.getElem?_toArray, List.getElem?_cons_succ, List.getElem?_cons_zero]; rfl
  · exact fun _ _ _ h => h
  · first
      | (refine Or.inr ⟨?_, ?_⟩ <;> rfl)
      | (refine Or.inl ⟨?_, ?_⟩; · rfl
         intro w hSw; (try dsimp only at hSw); go_simp; (try with_reducible rfl); done)
  try simp only [Act.put, List.setIfInBounds_toArray, List.set_cons_zero, List.set_cons_succ]
  refine wpAnyH_take (i := 5) (oi := ?_) (v := ?_) ?_ (by kernel_rfl) (by kernel_rfl) (by kernel_rfl) ?_ ?_ (by assumption) ?_
  rotate_left 2
  · simp only [List.getElem?_toArray, List.getElem?_cons_succ, List.getElem?_cons_zero]; rfl
  · exact fun _ _ _ h => h
  · first
      | (refine Or.inr ⟨?_, ?_⟩ <;> rfl)
      | (refine Or.inl ⟨?_, ?_⟩; · rfl
         intro w hSw; (try dsimp only at hSw); go_simp; (try with_reducible rfl); done)
  try simp only [Act.put, List.setIfInBounds_toArray, List.set_cons_zero, List.set_cons_succ]
  refine wpAnyH_ready (rs := [6]) (by kernel_rfl) (by simp) ?_
  refine AllReadyH.cons (o := ?_) ?_ (fun K hK => ?_) AllReadyH.nil
  rotate_left 1
  · simp only [List.getElem?_toArray, List.getElem?_cons_succ, List.getElem?_cons_zero]; rfl
  go_simp
  skip
  refine hK.out _ _ ?_ (fun hHeld => ?_)
  · try dsimp only
    go_keep
  clear hK K
  try simp only [Act.put, List.setIfInBounds_toArray, List.set_cons_zero, List.set_cons_succ]
  refine wpAnyH_take (i := 7) (oi := ?_) (v := ?_) ?_ (by kernel_rfl) (by kernel_rfl) (by kernel_rfl) ?_ ?_ (by assumption) ?_
  rotate_left 2
  · simp only [List.getElem?_toArray, List.getElem?_cons_succ, List.getElem?_cons_zero]; rfl
  · exact fun _ _ _ h => h
  · first
      | (refine Or.inr ⟨?_, ?_⟩ <;> rfl)
      | (refine Or.inl ⟨?_, ?_⟩; · rfl
         intro w hSw; (try dsimp only at hSw); go_simp; (try with_reducible rfl); done)
  try simp only [Act.put, List.setIfInBounds_toArray, List.set_cons_zero, List.set_cons_succ]
  refine wpAnyH_done (by kernel_rfl) ?_ _
  go_wp2_with fail
  exact bodyPost_ret (v := .tuple #[.agg #[.int .i64 a, .bool b, .bool c], .bool (decide (bsI n i o s < 5))]) (by simp [results, Try.results133, go_sem, hrc]) rfl ⟨by rw [HBV.out], HM2.out.done _ _ _⟩
end Go.Proofs.Ytokddeoliieofaa
