/-
  Parts of the proof: Bv Ke Kn Cl. No condition.
-/
import Derived.Lib.SlBytesRow
import Derived.Test.YtlkdmpfifpkpaaaGreatDoorV06
namespace Go.Proofs.YtlkdmpfifpkpaaaGreatDoor
open Go.RowKit
theorem specPossible_any (n : Int) (i o : Bool) (w : World) :
    Calls Tryz.prog 68 #[.agg #[.int .i64 n, .bool i, .bool o]] w fun e w' => e = .returned (.bool (decide (stI n i o < 5))) ∧ Below w.heap.size w w' := by
  have HBB : Hid (∀ a, Below w.heap.size w (w.alloc a)) := fun a => below_all _ _
  by_cases h0 : n = 0
  ·subst h0
   have HI : Hid (inB 0 0 2 = true) := rfl
   cases i <;> cases o
   ·have HV : Hid (decide (stI 0 false false < 5) = true) := rfl
    go_enter Tryz.func68, Tryz.ntmps68
    go_wp2_with fail
    refine (l6In_any _ _ _ _).mono ?_
    rintro e w' ⟨rfl, rfl⟩
    rw [HI.out]
    go_wp2_with fail
    go_ret
    exact ⟨by rw [HV.out]; rfl, HBB.out _⟩
   ·have HV : Hid (decide (stI 0 false true < 5) = true) := rfl
    go_enter Tryz.func68, Tryz.ntmps68
    go_wp2_with fail
    refine (l6In_any _ _ _ _).mono ?_
    rintro e w' ⟨rfl, rfl⟩
    rw [HI.out]
    go_wp2_with fail
    go_ret
    exact ⟨by rw [HV.out]; rfl, HBB.out _⟩
   ·have HV : Hid (decide (stI 0 true false < 5) = false) := rfl
    go_enter Tryz.func68, Tryz.ntmps68
    go_wp2_with fail
    refine (l6In_any _ _ _ _).mono ?_
    rintro e w' ⟨rfl, rfl⟩
    rw [HI.out]
    go_wp2_with fail
    go_ret
    exact ⟨by rw [HV.out]; rfl, HBB.out _⟩
   ·have HV : Hid (decide (stI 0 true true < 5) = false) := rfl
    go_enter Tryz.func68, Tryz.ntmps68
    go_wp2_with fail
    refine (l6In_any _ _ _ _).mono ?_
    rintro e w' ⟨rfl, rfl⟩
    rw [HI.out]
    go_wp2_with fail
    go_ret
    exact ⟨by rw [HV.out]; rfl, HBB.out _⟩
  by_cases h1 : n = 1
  ·subst h1
   have HI : Hid (inB 1 0 2 = true) := rfl
   clear h0
   cases i <;> cases o
   ·have HV : Hid (decide (stI 1 false false < 5) = true) := rfl
    go_enter Tryz.func68, Tryz.ntmps68
    go_wp2_with fail
    refine (l6In_any _ _ _ _).mono ?_
    rintro e w' ⟨rfl, rfl⟩
    rw [HI.out]
    go_wp2_with fail
    go_ret
    exact ⟨by rw [HV.out]; rfl, HBB.out _⟩
   ·have HV : Hid (decide (stI 1 false true < 5) = false) := rfl
    go_enter Tryz.func68, Tryz.ntmps68
    go_wp2_with fail
    refine (l6In_any _ _ _ _).mono ?_
    rintro e w' ⟨rfl, rfl⟩
    rw [HI.out]
    go_wp2_with fail
    go_ret
    exact ⟨by rw [HV.out]; rfl, HBB.out _⟩
   ·have HV : Hid (decide (stI 1 true false < 5) = false) := rfl
    go_enter Tryz.func68, Tryz.ntmps68
    go_wp2_with fail
    refine (l6In_any _ _ _ _).mono ?_
    rintro e w' ⟨rfl, rfl⟩
    rw [HI.out]
    go_wp2_with fail
    go_ret
    exact ⟨by rw [HV.out]; rfl, HBB.out _⟩
   ·have HV : Hid (decide (stI 1 true true < 5) = false) := rfl
    go_enter Tryz.func68, Tryz.ntmps68
    go_wp2_with fail
    refine (l6In_any _ _ _ _).mono ?_
    rintro e w' ⟨rfl, rfl⟩
    rw [HI.out]
    go_wp2_with fail
    go_ret
    exact ⟨by rw [HV.out]; rfl, HBB.out _⟩
  by_cases h2 : n = 2
  ·subst h2
   have HI : Hid (inB 2 0 2 = true) := rfl
   clear h0 h1
   cases i <;> cases o
   ·have HV : Hid (decide (stI 2 false false < 5) = true) := rfl
    go_enter Tryz.func68, Tryz.ntmps68
    go_wp2_with fail
    refine (l6In_any _ _ _ _).mono ?_
    rintro e w' ⟨rfl, rfl⟩
    rw [HI.out]
    go_wp2_with fail
    go_ret
    exact ⟨by rw [HV.out]; rfl, HBB.out _⟩
   ·have HV : Hid (decide (stI 2 false true < 5) = false) := rfl
    go_enter Tryz.func68, Tryz.ntmps68
    go_wp2_with fail
    refine (l6In_any _ _ _ _).mono ?_
    rintro e w' ⟨rfl, rfl⟩
    rw [HI.out]
    go_wp2_with fail
    go_ret
    exact ⟨by rw [HV.out]; rfl, HBB.out _⟩
   ·have HV : Hid (decide (stI 2 true false < 5) = true) := rfl
    go_enter Tryz.func68, Tryz.ntmps68
    go_wp2_with fail
    refine (l6In_any _ _ _ _).mono ?_
    rintro e w' ⟨rfl, rfl⟩
    rw [HI.out]
    go_wp2_with fail
    go_ret
    exact ⟨by rw [HV.out]; rfl, HBB.out _⟩
   ·have HV : Hid (decide (stI 2 true true < 5) = false) := rfl
    go_enter Tryz.func68, Tryz.ntmps68
    go_wp2_with fail
    refine (l6In_any _ _ _ _).mono ?_
    rintro e w' ⟨rfl, rfl⟩
    rw [HI.out]
    go_wp2_with fail
    go_ret
    exact ⟨by rw [HV.out]; rfl, HBB.out _⟩
  ·have HI : Hid (inB n 0 2 = false) := inB_false.2 (by omega)
   have HV : Hid (decide (stI n i o < 5) = false) := by
    have e : stI n i o = 5 := stI_no fun j hj => by
     have h5 : j = 0 ∨ j = 1 ∨ j = 2 ∨ j = 3 ∨ j = 4 := by omega
     have a0 : ¬ (0 : Int) = n := fun h => h0 h.symm
     have a1 : ¬ (1 : Int) = n := fun h => h1 h.symm
     have a2 : ¬ (2 : Int) = n := fun h => h2 h.symm
     rcases h5 with rfl | rfl | rfl | rfl | rfl <;> simp [bkE, stB, a0, a1, a2]
    rw [e]; rfl
   clear h0 h1 h2
   go_enter Tryz.func68, Tryz.ntmps68
   go_wp2_with fail
   refine (l6In_any _ _ _ _).mono ?_
   rintro e w' ⟨rfl, rfl⟩
   rw [HI.out]
   go_wp2_with fail
   go_ret
   exact ⟨by rw [HV.out]; rfl, HBB.out _⟩
theorem bsI_size {n : Int} {i o : Bool} {s : ByteArray} (h : ¬ s.size = 1) : bsI n i o s = 5 := if_neg h
theorem bsI_one {n : Int} {i o : Bool} {s : ByteArray} (h : s.size = 1) : bsI n i o s = nx (stI n i o) (bt s 0) := if_pos h
theorem bsI_no {n : Int} {i o : Bool} {s : ByteArray} (h : ¬ stI n i o < 5) : bsI n i o s = 5 := by
 unfold bsI
 split
 ·obtain ⟨k, hk⟩ : ∃ k, stI n i o = k + 5 := ⟨stI n i o - 5, by omega⟩
  rw [hk]; rfl
 ·rfl
def BsRes (j : Nat) (w : World) (e : Ending) (w' : World) : Prop := e = .returned (.tuple #[bsV j, .bool (decide (j < 5))]) ∧ Below w.heap.size w w'
structure BsM (w wr : World) (n : Int) (i o : Bool) : Prop where
  box : Bx wr w.heap.size 76 #[.int .i64 n, .bool i, .bool o]
  res : Bx wr (w.heap.size + 1) 76 #[.int .i64 0, .bool false, .bool false]
  bl : Below w.heap.size w wr
theorem BsM.below {w wr w' : World} {n : Int} {i o : Bool} {B : Nat} (h : BsM w wr n i o) (hb : Below B wr w') (hB : B = wr.heap.size) : BsM w w' n i o := by
 subst hB
 exact ⟨h.box.below hb h.box.lt, h.res.below hb h.res.lt, h.bl.trans (hb.mono h.bl.size)⟩
theorem BsM.new (w : World) (n : Int) (i o : Bool) : BsM w ((w.alloc (.cells #[.int .i64 n, .bool i, .bool o] 76)).alloc (.cells #[.int .i64 0, .bool false, .bool false] 76)) n i o :=
 ⟨(Bx.new _ _ _).alloc _, Bx.newAt (by simp), ((Below.refl _ _).alloc (Nat.le_refl _) _).alloc (by simp) _⟩
theorem BsM.done {w wr : World} {n : Int} {i o : Bool} (h : BsM w wr n i o) (a b c : Value) : Below w.heap.size w (((wr.setCell ⟨w.heap.size + 1, 0, none⟩ a).setCell ⟨w.heap.size + 1, 1, none⟩ b).setCell ⟨w.heap.size + 1, 2, none⟩ c) :=
 ((h.bl.setCell (by dsimp only; omega) _).setCell (by dsimp only; omega) _).setCell (by dsimp only; omega) _
set_option linter.unusedSimpArgs false in
set_option maxRecDepth 100000 in
set_option maxHeartbeats 4000000 in
theorem implStep_any (n : Int) (i o : Bool) (s : ByteArray) (w : World) :
    Calls Tryz.prog 161 #[.agg #[.int .i64 n, .bool i, .bool o], .string s] w (BsRes (bsI n i o s) w) := by
  have HM0 := Lib.hid (BsM.new w n i o)
  by_cases h5 : ¬ stI n i o < 5
  ·have HJ := Lib.hid (bsI_no (s := s) h5)
   have HD : Hid (decide (stI n i o < 5) = false) := decide_eq_false h5
   clear h5
   go_enter Tryz.func161, Tryz.ntmps161
   go_wp2_with fail
   refine (instr_any n i o _).mono ?_
   rintro e w1 ⟨rfl, hb⟩
   have HM := Lib.hid (HM0.out.below hb rfl)
   have hrc := HM.out.res.cell
   have hrf := HM.out.res.free
   clear hb
   rw [HD.out]
   go_wp2_with fail
   exact bodyPost_ret (v := .tuple #[.agg #[.int .i64 0, .bool false, .bool false], .bool false]) (by simp [results, Tryz.results161, go_sem, hrc]) rfl ⟨by rw [HJ.out]; rfl, HM.out.done _ _ _⟩
  replace h5 := Decidable.not_not.1 h5
  have HD : Hid (decide (stI n i o < 5) = true) := decide_eq_true h5
  have HIV := Lib.hid (inV_at h5)
  by_cases h1 : ¬ s.size = 1
  ·have HJ := Lib.hid (bsI_size (n := n) (i := i) (o := o) h1)
   have g1 : ((s.size : Int) != 1) = true := by simp; omega
   clear h1
   go_enter Tryz.func161, Tryz.ntmps161
   go_wp2_with fail
   refine (instr_any n i o _).mono ?_
   rintro e w1 ⟨rfl, hb⟩
   have HM := Lib.hid (HM0.out.below hb rfl)
   have hrc := HM.out.res.cell
   have hrf := HM.out.res.free
   clear hb
   rw [HD.out]
   go_wp2_with fail
   exact bodyPost_ret (v := .tuple #[.agg #[.int .i64 0, .bool false, .bool false], .bool false]) (by simp [results, Tryz.results161, go_sem, hrc]) rfl ⟨by rw [HJ.out]; rfl, HM.out.done _ _ _⟩
  replace h1 := Decidable.not_not.1 h1
  have HB1 := Lib.hid (bsI_one (n := n) (i := i) (o := o) h1)
  have g1 : ((s.size : Int) != 1) = false := by simp; omega
  have hs0 : 0 < s.size := by omega
  have hs0' : (0 : Int) < (s.size : Int) := by omega
  have hbt := bt_at hs0
  clear h1
  go_enter Tryz.func161, Tryz.ntmps161
  go_wp2_with fail
  refine (instr_any n i o _).mono ?_
  rintro e w1 ⟨rfl, hb⟩
  have HM := Lib.hid (HM0.out.below hb rfl)
  have hrc := HM.out.res.cell
  have hrf := HM.out.res.free
  clear hb
  rw [HD.out, HIV.out]
  go_wp2_with fail
  refine (stateBehind_any _ (bt s 0) _ h5).mono ?_
  rintro e w2 ⟨rfl, rfl⟩
  have hle := nx_le (stI n i o) (bt s 0)
  have h6 : nx (stI n i o) (bt s 0) = 0 ∨ nx (stI n i o) (bt s 0) = 1 ∨ nx (stI n i o) (bt s 0) = 2 ∨ nx (stI n i o) (bt s 0) = 3 ∨ nx (stI n i o) (bt s 0) = 4 ∨ nx (stI n i o) (bt s 0) = 5 := by omega
  clear hle
  rcases h6 with HNX | HNX | HNX | HNX | HNX | HNX <;> replace HNX := Lib.hid HNX
  ·have HJ2 : Hid (bsI n i o s = 0) := by show _ = _; rw [HB1.out]; exact HNX.out
   have hv : Hid (sbV (stI n i o) (bt s 0) = ifV 0) := by show _ = _; unfold sbV; rw [HNX.out]; rfl
   have hme := fun (f : Nat) (w : World) => normalState_meth f w
   rw [hv.out, HNX.out]
   rw [show ifV 0 = .iface 133 (.agg #[]) from rfl]
   go_wp2_with fail
   refine (normalState_block _).mono ?_
   rintro e w3 ⟨rfl, hb⟩
   have HM3 := Lib.hid (HM.out.below hb rfl)
   clear hb hrc hrf
   have hrc := HM3.out.res.cell
   have hrf := HM3.out.res.free
   go_wp2_with fail
   exact bodyPost_ret (v := .tuple #[.agg #[.int .i64 0, .bool false, .bool false], .bool true]) (by simp [results, Tryz.results161, go_sem, hrc]) rfl ⟨by rw [HJ2.out]; rfl, HM3.out.done _ _ _⟩
  ·have HJ2 : Hid (bsI n i o s = 1) := by show _ = _; rw [HB1.out]; exact HNX.out
   have hv : Hid (sbV (stI n i o) (bt s 0) = ifV 1) := by show _ = _; unfold sbV; rw [HNX.out]; rfl
   have hme := fun (f : Nat) (w : World) => offeredState_meth f w
   rw [hv.out, HNX.out]
   rw [show ifV 1 = .iface 134 (.agg #[]) from rfl]
   go_wp2_with fail
   refine (offeredState_block _).mono ?_
   rintro e w3 ⟨rfl, hb⟩
   have HM3 := Lib.hid (HM.out.below hb rfl)
   clear hb hrc hrf
   have hrc := HM3.out.res.cell
   have hrf := HM3.out.res.free
   go_wp2_with fail
   exact bodyPost_ret (v := .tuple #[.agg #[.int .i64 0, .bool false, .bool true], .bool true]) (by simp [results, Tryz.results161, go_sem, hrc]) rfl ⟨by rw [HJ2.out]; rfl, HM3.out.done _ _ _⟩
  ·have HJ2 : Hid (bsI n i o s = 2) := by show _ = _; rw [HB1.out]; exact HNX.out
   have hv : Hid (sbV (stI n i o) (bt s 0) = ifV 2) := by show _ = _; unfold sbV; rw [HNX.out]; rfl
   have hme := fun (f : Nat) (w : World) => clearState_meth f w
   rw [hv.out, HNX.out]
   rw [show ifV 2 = .iface 135 (.agg #[]) from rfl]
   go_wp2_with fail
   refine (clearState_block _).mono ?_
   rintro e w3 ⟨rfl, hb⟩
   have HM3 := Lib.hid (HM.out.below hb rfl)
   clear hb hrc hrf
   have hrc := HM3.out.res.cell
   have hrf := HM3.out.res.free
   go_wp2_with fail
   exact bodyPost_ret (v := .tuple #[.agg #[.int .i64 1, .bool false, .bool false], .bool true]) (by simp [results, Tryz.results161, go_sem, hrc]) rfl ⟨by rw [HJ2.out]; rfl, HM3.out.done _ _ _⟩
  ·have HJ2 : Hid (bsI n i o s = 3) := by show _ = _; rw [HB1.out]; exact HNX.out
   have hv : Hid (sbV (stI n i o) (bt s 0) = ifV 3) := by show _ = _; unfold sbV; rw [HNX.out]; rfl
   have hme := fun (f : Nat) (w : World) => insideState_meth f w
   rw [hv.out, HNX.out]
   rw [show ifV 3 = .iface 136 (.agg #[]) from rfl]
   go_wp2_with fail
   refine (insideState_block _).mono ?_
   rintro e w3 ⟨rfl, hb⟩
   have HM3 := Lib.hid (HM.out.below hb rfl)
   clear hb hrc hrf
   have hrc := HM3.out.res.cell
   have hrf := HM3.out.res.free
   go_wp2_with fail
   exact bodyPost_ret (v := .tuple #[.agg #[.int .i64 2, .bool true, .bool false], .bool true]) (by simp [results, Tryz.results161, go_sem, hrc]) rfl ⟨by rw [HJ2.out]; rfl, HM3.out.done _ _ _⟩
  ·have HJ2 : Hid (bsI n i o s = 4) := by show _ = _; rw [HB1.out]; exact HNX.out
   have hv : Hid (sbV (stI n i o) (bt s 0) = ifV 4) := by show _ = _; unfold sbV; rw [HNX.out]; rfl
   have hme := fun (f : Nat) (w : World) => passedState_meth f w
   rw [hv.out, HNX.out]
   rw [show ifV 4 = .iface 137 (.agg #[]) from rfl]
   go_wp2_with fail
   refine (passedState_block _).mono ?_
   rintro e w3 ⟨rfl, hb⟩
   have HM3 := Lib.hid (HM.out.below hb rfl)
   clear hb hrc hrf
   have hrc := HM3.out.res.cell
   have hrf := HM3.out.res.free
   go_wp2_with fail
   exact bodyPost_ret (v := .tuple #[.agg #[.int .i64 2, .bool false, .bool false], .bool true]) (by simp [results, Tryz.results161, go_sem, hrc]) rfl ⟨by rw [HJ2.out]; rfl, HM3.out.done _ _ _⟩
  ·have HJ : Hid (bsI n i o s = 5) := by show _ = _; rw [HB1.out]; exact HNX.out
   rw [HNX.out]
   go_wp2_with fail
   exact bodyPost_ret (v := .tuple #[.agg #[.int .i64 0, .bool false, .bool false], .bool false]) (by simp [results, Tryz.results161, go_sem, hrc]) rfl ⟨by rw [HJ.out]; rfl, HM.out.done _ _ _⟩
set_option linter.unusedSimpArgs false in
set_option maxRecDepth 100000 in
set_option maxHeartbeats 4000000 in
theorem specStep_any (n : Int) (i o : Bool) (s : ByteArray) (w : World) :
    Calls Tryz.prog 91 #[.agg #[.int .i64 n, .bool i, .bool o], .string s] w (BsRes (bsI n i o s) w) := by
  have HM0 := Lib.hid (BsM.new w n i o)
  by_cases h5 : ¬ stI n i o < 5
  ·have HJ := Lib.hid (bsI_no (s := s) h5)
   have HD : Hid (decide (stI n i o < 5) = false) := decide_eq_false h5
   clear h5
   go_enter Tryz.func91, Tryz.ntmps91
   go_wp2_with fail
   refine (specPossible_any n i o _).mono ?_
   rintro e w1 ⟨rfl, hb⟩
   have HM := Lib.hid (HM0.out.below hb rfl)
   have hrc := HM.out.res.cell
   have hrf := HM.out.res.free
   clear hb
   rw [HD.out]
   go_wp2_with fail
   exact bodyPost_ret (v := .tuple #[.agg #[.int .i64 0, .bool false, .bool false], .bool false]) (by simp [results, Tryz.results91, go_sem, hrc]) rfl ⟨by rw [HJ.out]; rfl, HM.out.done _ _ _⟩
  replace h5 := Decidable.not_not.1 h5
  have HD : Hid (decide (stI n i o < 5) = true) := decide_eq_true h5
  by_cases h1 : ¬ s.size = 1
  ·have HJ := Lib.hid (bsI_size (n := n) (i := i) (o := o) h1)
   have g1 : ((s.size : Int) != 1) = true := by simp; omega
   clear h1
   go_enter Tryz.func91, Tryz.ntmps91
   go_wp2_with fail
   refine (specPossible_any n i o _).mono ?_
   rintro e w1 ⟨rfl, hb⟩
   have HM := Lib.hid (HM0.out.below hb rfl)
   have hrc := HM.out.res.cell
   have hrf := HM.out.res.free
   clear hb
   rw [HD.out]
   go_wp2_with fail
   exact bodyPost_ret (v := .tuple #[.agg #[.int .i64 0, .bool false, .bool false], .bool false]) (by simp [results, Tryz.results91, go_sem, hrc]) rfl ⟨by rw [HJ.out]; rfl, HM.out.done _ _ _⟩
  replace h1 := Decidable.not_not.1 h1
  have HB1 := Lib.hid (bsI_one (n := n) (i := i) (o := o) h1)
  have g1 : ((s.size : Int) != 1) = false := by simp; omega
  have hs0 : 0 < s.size := by omega
  have hs0' : (0 : Int) < (s.size : Int) := by omega
  have hbt := bt_at hs0
  have hla : Calls Tryz.prog 69 #[.agg #[.int .i64 n, .bool i, .bool o], .int .u8 (bt s 0)] = Calls Tryz.prog 69 #[bkA (stI n i o), .int .u8 (bt s 0)] := by
   obtain ⟨e1, e2, e3⟩ := stI_B rfl h5
   unfold bkA
   rw [← e1, ← e2, ← e3]
  have HL : Hid (∀ W, Calls Tryz.prog 69 #[.agg #[.int .i64 n, .bool i, .bool o], .int .u8 (bt s 0)] W fun e w' => e = .returned (.tuple #[bsV (bsI n i o s), .bool (decide (bsI n i o s < 5))]) ∧ Below W.heap.size W w') := fun W => by
   rw [hla, HB1.out]
   exact l3Step_any _ _ _ h5
  have hbv : ∃ a b c, bsV (bsI n i o s) = .agg #[.int .i64 a, .bool b, .bool c] := by
   unfold bsV
   split
   ·exact ⟨_, _, _, rfl⟩
   ·exact ⟨_, _, _, rfl⟩
  obtain ⟨a, b, c, hbv⟩ := hbv
  have HBV := Lib.hid hbv
  clear h1 hla hbv
  go_enter Tryz.func91, Tryz.ntmps91
  go_wp2_with fail
  refine (specPossible_any n i o _).mono ?_
  rintro e w1 ⟨rfl, hb⟩
  have HM := Lib.hid (HM0.out.below hb rfl)
  have hbc := HM.out.box.cell
  clear hb
  rw [HD.out]
  go_wp2_with fail
  refine wp_region_held_drew (S := (fun w' => w'.cell? ⟨w.heap.size, 0, none⟩ = some (.int .i64 n) ∧ w'.cell? ⟨w.heap.size, 1, none⟩ = some (.bool i) ∧ w'.cell? ⟨w.heap.size, 2, none⟩ = some (.bool o))) (by kernel_rfl) ?_ (fun hHeld => ?_)
  ·try dsimp only
   go_keep
  refine tkR 0 ?_
  refine tkR 1 ?_
  refine tkR 2 ?_
  refine r1R 3 (fun K hK => ?_)
  go_simp
  go_at_call 69
  go_must (refine Calls.mono (HL.out _) ?_)
  rintro e w2 ⟨rfl, hb⟩
  rw [HBV.out]
  have HM2 := Lib.hid ((HM.out.below (B := w1.heap.size) (Below.refl _ w1).drew rfl).below hb rfl)
  clear hb hbc
  have hbc := HM2.out.box.cell
  have hrc := HM2.out.res.cell
  have hrf := HM2.out.res.free
  refine oR hK ?_ (fun hHeld => ?_)
  ·try dsimp only
   go_keep
  clear hK K
  refine tkR 4 ?_
  refine tkR 5 ?_
  refine r1R 6 (fun K hK => ?_)
  go_simp
  skip
  refine oR hK ?_ (fun hHeld => ?_)
  ·try dsimp only
   go_keep
  clear hK K
  refine tkR 7 ?_
  refine wpAnyH_done (by kernel_rfl) ?_ _
  go_wp2_with fail
  exact bodyPost_ret (v := .tuple #[.agg #[.int .i64 a, .bool b, .bool c], .bool (decide (bsI n i o s < 5))]) (by simp [results, Tryz.results91, go_sem, hrc]) rfl ⟨by rw [HBV.out], HM2.out.done _ _ _⟩
def NtC (w : World) (b off : Nat) (ns : List (Int × ByteArray)) : Prop :=
 ∀ k, k < ns.length → w.cell? ⟨b, off + k * 2, none⟩ = some (.int .i64 (nM ns k)) ∧ w.cell? ⟨b, off + k * 2 + 1, none⟩ = some (.string (nL ns k))
theorem NtC.keep {w w' : World} {b off : Nat} {ns : List (Int × ByteArray)} (h : NtC w b off ns) (hb : Below w.heap.size w w') : NtC w' b off ns := fun k hk => by
 obtain ⟨h1, h2⟩ := h k hk
 have hlt : b < w.heap.size := World.block_lt_of_cell? w ⟨b, off + k * 2, none⟩ h1
 exact ⟨by rw [hb.cell (p := ⟨b, off + k * 2, none⟩) hlt]; exact h1, by rw [hb.cell (p := ⟨b, off + k * 2 + 1, none⟩) hlt]; exact h2⟩
theorem tl_ne {l : ByteArray} {c : UInt8} (h : ¬ l = chN c) : (l.toList == [c]) = false ∧ ([c] == l.toList) = false := by
 rw [ByteArray.toList_eq]
 have key : ¬ l.data.toList = [c] := fun e => by
  apply h
  cases l with
  | mk d =>
   have : d = #[c] := by
    apply Array.ext'
    simpa using e
   rw [this]
   rfl
 simp only [beq_eq_false_iff_ne, ne_eq]
 exact ⟨key, fun e => key e.symm⟩
theorem tl_eq (c : UInt8) : ((chN c).toList == [c]) = true ∧ ([c] == (chN c).toList) = true := by
 rw [ByteArray.toList_eq]
 simp [chN]
theorem evB_of {c : UInt8} (h : c ∈ evL) : evB (chN c) = true := by
 show evL.contains c = true
 rw [List.contains_iff_mem]
 exact h
theorem evB_not {l : ByteArray} (h : ∀ c, c ∈ evL → ¬ l = chN c) : evB l = false := by
 cases e : evB l
 ·rfl
 ·exfalso
  obtain ⟨c, rfl⟩ := chN_of (evB_size e)
  have h2 : evL.contains c = true := e
  rw [List.contains_iff_mem] at h2
  exact h c h2 rfl
theorem specLetter_any (l : ByteArray) (w : World) :
    Calls Tryz.prog 156 #[.string l] w fun e w' => e = .returned (.bool (evB l)) ∧ w = w' := by
  go_enter Tryz.func156, Tryz.ntmps156
  go_wp2_with fail
  go_loop [4] (fun i => ∃ m : Nat, m ≤ 7 ∧ i = .int .i64 m ∧ Hid (∀ c, c ∈ evL.take m → ¬ l = chN c)) (fun i => 7 - (intOf i).toNat)
  case atStart => exact ⟨0, by omega, rfl, fun c hc => by simp at hc⟩
  case round =>
   obtain ⟨m, hm, rfl, HA⟩ := hrel
   obtain rfl | rfl | rfl | rfl | rfl | rfl | rfl | rfl : m = 0 ∨ m = 1 ∨ m = 2 ∨ m = 3 ∨ m = 4 ∨ m = 5 ∨ m = 6 ∨ m = 7 := by omega
   ·have hex : ((⟨#[97, 99, 101, 102, 108, 111, 114]⟩ : ByteArray).extract 0 1).toList = [97] := by rw [ByteArray.toList_eq]; rfl
    by_cases h1 : l = chN 97
    ·have HV : Hid (evB l = true) := by show _ = _; rw [h1]; exact evB_of (by decide)
     have ht := tl_eq 97
     rw [← h1] at ht
     have ht3 : (((⟨#[97, 99, 101, 102, 108, 111, 114]⟩ : ByteArray).extract 0 1).toList == l.toList) = true := by rw [hex]; exact ht.2
     clear h1 ht hex
     go_wp2_with fail
     go_ret
     exact ⟨by rw [HV.out]; rfl, rfl⟩
    ·have ht3 : (((⟨#[97, 99, 101, 102, 108, 111, 114]⟩ : ByteArray).extract 0 1).toList == l.toList) = false := by rw [hex]; exact (tl_ne h1).2
     clear hex
     have HN := Lib.hid h1
     clear h1
     go_wp2_with fail
     go_round
     case rel => exact ⟨0 + 1, by omega, by go_num, fun c hc => by
      rcases List.mem_append.1 (show c ∈ evL.take 0 ++ [97] from hc) with h | h
      ·exact HA.out c h
      ·rw [List.mem_singleton.1 h]; exact HN.out⟩
     case measure => decide
   ·have hex : ((⟨#[97, 99, 101, 102, 108, 111, 114]⟩ : ByteArray).extract 1 2).toList = [99] := by rw [ByteArray.toList_eq]; rfl
    by_cases h1 : l = chN 99
    ·have HV : Hid (evB l = true) := by show _ = _; rw [h1]; exact evB_of (by decide)
     have ht := tl_eq 99
     rw [← h1] at ht
     have ht3 : (((⟨#[97, 99, 101, 102, 108, 111, 114]⟩ : ByteArray).extract 1 2).toList == l.toList) = true := by rw [hex]; exact ht.2
     clear h1 ht hex
     go_wp2_with fail
     go_ret
     exact ⟨by rw [HV.out]; rfl, rfl⟩
    ·have ht3 : (((⟨#[97, 99, 101, 102, 108, 111, 114]⟩ : ByteArray).extract 1 2).toList == l.toList) = false := by rw [hex]; exact (tl_ne h1).2
     clear hex
     have HN := Lib.hid h1
     clear h1
     go_wp2_with fail
     go_round
     case rel => exact ⟨1 + 1, by omega, by go_num, fun c hc => by
      rcases List.mem_append.1 (show c ∈ evL.take 1 ++ [99] from hc) with h | h
      ·exact HA.out c h
      ·rw [List.mem_singleton.1 h]; exact HN.out⟩
     case measure => decide
   ·have hex : ((⟨#[97, 99, 101, 102, 108, 111, 114]⟩ : ByteArray).extract 2 3).toList = [101] := by rw [ByteArray.toList_eq]; rfl
    by_cases h1 : l = chN 101
    ·have HV : Hid (evB l = true) := by show _ = _; rw [h1]; exact evB_of (by decide)
     have ht := tl_eq 101
     rw [← h1] at ht
     have ht3 : (((⟨#[97, 99, 101, 102, 108, 111, 114]⟩ : ByteArray).extract 2 3).toList == l.toList) = true := by rw [hex]; exact ht.2
     clear h1 ht hex
     go_wp2_with fail
     go_ret
     exact ⟨by rw [HV.out]; rfl, rfl⟩
    ·have ht3 : (((⟨#[97, 99, 101, 102, 108, 111, 114]⟩ : ByteArray).extract 2 3).toList == l.toList) = false := by rw [hex]; exact (tl_ne h1).2
     clear hex
     have HN := Lib.hid h1
     clear h1
     go_wp2_with fail
     go_round
     case rel => exact ⟨2 + 1, by omega, by go_num, fun c hc => by
      rcases List.mem_append.1 (show c ∈ evL.take 2 ++ [101] from hc) with h | h
      ·exact HA.out c h
      ·rw [List.mem_singleton.1 h]; exact HN.out⟩
     case measure => decide
   ·have hex : ((⟨#[97, 99, 101, 102, 108, 111, 114]⟩ : ByteArray).extract 3 4).toList = [102] := by rw [ByteArray.toList_eq]; rfl
    by_cases h1 : l = chN 102
    ·have HV : Hid (evB l = true) := by show _ = _; rw [h1]; exact evB_of (by decide)
     have ht := tl_eq 102
     rw [← h1] at ht
     have ht3 : (((⟨#[97, 99, 101, 102, 108, 111, 114]⟩ : ByteArray).extract 3 4).toList == l.toList) = true := by rw [hex]; exact ht.2
     clear h1 ht hex
     go_wp2_with fail
     go_ret
     exact ⟨by rw [HV.out]; rfl, rfl⟩
    ·have ht3 : (((⟨#[97, 99, 101, 102, 108, 111, 114]⟩ : ByteArray).extract 3 4).toList == l.toList) = false := by rw [hex]; exact (tl_ne h1).2
     clear hex
     have HN := Lib.hid h1
     clear h1
     go_wp2_with fail
     go_round
     case rel => exact ⟨3 + 1, by omega, by go_num, fun c hc => by
      rcases List.mem_append.1 (show c ∈ evL.take 3 ++ [102] from hc) with h | h
      ·exact HA.out c h
      ·rw [List.mem_singleton.1 h]; exact HN.out⟩
     case measure => decide
   ·have hex : ((⟨#[97, 99, 101, 102, 108, 111, 114]⟩ : ByteArray).extract 4 5).toList = [108] := by rw [ByteArray.toList_eq]; rfl
    by_cases h1 : l = chN 108
    ·have HV : Hid (evB l = true) := by show _ = _; rw [h1]; exact evB_of (by decide)
     have ht := tl_eq 108
     rw [← h1] at ht
     have ht3 : (((⟨#[97, 99, 101, 102, 108, 111, 114]⟩ : ByteArray).extract 4 5).toList == l.toList) = true := by rw [hex]; exact ht.2
     clear h1 ht hex
     go_wp2_with fail
     go_ret
     exact ⟨by rw [HV.out]; rfl, rfl⟩
    ·have ht3 : (((⟨#[97, 99, 101, 102, 108, 111, 114]⟩ : ByteArray).extract 4 5).toList == l.toList) = false := by rw [hex]; exact (tl_ne h1).2
     clear hex
     have HN := Lib.hid h1
     clear h1
     go_wp2_with fail
     go_round
     case rel => exact ⟨4 + 1, by omega, by go_num, fun c hc => by
      rcases List.mem_append.1 (show c ∈ evL.take 4 ++ [108] from hc) with h | h
      ·exact HA.out c h
      ·rw [List.mem_singleton.1 h]; exact HN.out⟩
     case measure => decide
   ·have hex : ((⟨#[97, 99, 101, 102, 108, 111, 114]⟩ : ByteArray).extract 5 6).toList = [111] := by rw [ByteArray.toList_eq]; rfl
    by_cases h1 : l = chN 111
    ·have HV : Hid (evB l = true) := by show _ = _; rw [h1]; exact evB_of (by decide)
     have ht := tl_eq 111
     rw [← h1] at ht
     have ht3 : (((⟨#[97, 99, 101, 102, 108, 111, 114]⟩ : ByteArray).extract 5 6).toList == l.toList) = true := by rw [hex]; exact ht.2
     clear h1 ht hex
     go_wp2_with fail
     go_ret
     exact ⟨by rw [HV.out]; rfl, rfl⟩
    ·have ht3 : (((⟨#[97, 99, 101, 102, 108, 111, 114]⟩ : ByteArray).extract 5 6).toList == l.toList) = false := by rw [hex]; exact (tl_ne h1).2
     clear hex
     have HN := Lib.hid h1
     clear h1
     go_wp2_with fail
     go_round
     case rel => exact ⟨5 + 1, by omega, by go_num, fun c hc => by
      rcases List.mem_append.1 (show c ∈ evL.take 5 ++ [111] from hc) with h | h
      ·exact HA.out c h
      ·rw [List.mem_singleton.1 h]; exact HN.out⟩
     case measure => decide
   ·have hex : ((⟨#[97, 99, 101, 102, 108, 111, 114]⟩ : ByteArray).extract 6 7).toList = [114] := by rw [ByteArray.toList_eq]; rfl
    by_cases h1 : l = chN 114
    ·have HV : Hid (evB l = true) := by show _ = _; rw [h1]; exact evB_of (by decide)
     have ht := tl_eq 114
     rw [← h1] at ht
     have ht3 : (((⟨#[97, 99, 101, 102, 108, 111, 114]⟩ : ByteArray).extract 6 7).toList == l.toList) = true := by rw [hex]; exact ht.2
     clear h1 ht hex
     go_wp2_with fail
     go_ret
     exact ⟨by rw [HV.out]; rfl, rfl⟩
    ·have ht3 : (((⟨#[97, 99, 101, 102, 108, 111, 114]⟩ : ByteArray).extract 6 7).toList == l.toList) = false := by rw [hex]; exact (tl_ne h1).2
     clear hex
     have HN := Lib.hid h1
     clear h1
     go_wp2_with fail
     go_round
     case rel => exact ⟨6 + 1, by omega, by go_num, fun c hc => by
      rcases List.mem_append.1 (show c ∈ evL.take 6 ++ [114] from hc) with h | h
      ·exact HA.out c h
      ·rw [List.mem_singleton.1 h]; exact HN.out⟩
     case measure => decide
   ·have HV : Hid (evB l = false) := evB_not HA.out
    go_wp2_with fail
    go_ret
    exact ⟨by rw [HV.out]; rfl, rfl⟩
set_option linter.unusedSimpArgs false in
set_option maxHeartbeats 1000000 in
theorem specValid_any (b off c : Nat) (ns : List (Int × ByteArray)) (w : World) (hn : ns.length ≤ 1000000000000) (hc : NtC w b off ns) :
    Calls Tryz.prog 138 #[.slice (some ⟨b, off, none⟩) ns.length c] w fun e w' => e = .returned (.bool (rgV ns)) ∧ w = w' := by
  have HC := Lib.hid hc
  clear hc
  go_enter Tryz.func138, Tryz.ntmps138
  go_wp2_with fail
  go_loop [3, 4] (fun a i => ∃ k : Nat, k ≤ ns.length ∧ i = .int .i64 k ∧ a = .int .i64 (prM ns k) ∧ Hid (∀ j, j < k → okN ns j = true)) (fun _ i => ns.length - (intOf i).toNat)
  case atStart => exact ⟨0, Nat.zero_le _, rfl, rfl, fun j hj => by omega⟩
  case round =>
   obtain ⟨k, hk, rfl, rfl, HA⟩ := hrel
   by_cases hlt : k < ns.length
   ·obtain ⟨c0, c1⟩ := HC.out k hlt
    have HPS := Lib.hid (prM_succ ns k)
    have HOK := Lib.hid (okN_true (ns := ns) (i := k))
    have HIB : Hid (inB (nM ns k) (prM ns k) 2000 = true ↔ prM ns k ≤ nM ns k ∧ nM ns k ≤ 2000) := inB_true
    have HRN : Hid (okN ns k = false → rgV ns = false) := fun h => rgV_not hlt h
    have HOV : Hid (okN ns k = (inB (nM ns k) (prM ns k) 2000 && evB (nL ns k))) := rfl
    generalize nM ns k = m at *
    generalize nL ns k = l at *
    cases hib : inB m (prM ns k) 2000
    ·have HF : Hid (rgV ns = false) := HRN.out (by rw [HOV.out, hib]; rfl)
     have HI := Lib.hid hib
     clear hib
     go_wp2_with fail
     refine (l6In_any _ _ _ _).mono ?_
     rintro e w' ⟨rfl, rfl⟩
     rw [HI.out]
     go_wp2_with fail
     go_ret
     exact ⟨by rw [HF.out]; rfl, rfl⟩
    cases hev : evB l
    ·have HF : Hid (rgV ns = false) := HRN.out (by rw [HOV.out, hev]; simp)
     have HI := Lib.hid hib
     have HEV := Lib.hid hev
     clear hib hev
     go_wp2_with fail
     refine (l6In_any _ _ _ _).mono ?_
     rintro e w' ⟨rfl, rfl⟩
     rw [HI.out]
     go_wp2_with fail
     refine (specLetter_any l _).mono ?_
     rintro e w' ⟨rfl, rfl⟩
     rw [HEV.out]
     go_wp2_with fail
     go_ret
     exact ⟨by rw [HF.out]; rfl, rfl⟩
    ·have HOKI : Hid (okN ns k = true) := by show _ = _; rw [HOV.out, hib, hev]; rfl
     have HI := Lib.hid hib
     have HEV := Lib.hid hev
     clear hib hev
     go_wp2_with fail
     refine (l6In_any _ _ _ _).mono ?_
     rintro e w' ⟨rfl, rfl⟩
     rw [HI.out]
     go_wp2_with fail
     refine (specLetter_any l _).mono ?_
     rintro e w' ⟨rfl, rfl⟩
     rw [HEV.out]
     go_wp2_with fail
     go_round
     case rel => exact ⟨k + 1, by omega, by go_num, by rw [HPS.out], fun j hj => by
      rcases Nat.lt_or_ge j k with h | h
      ·exact HA.out j h
      ·obtain rfl : j = k := by omega
       exact HOKI.out⟩
     case measure => simp [intOf]; omega
   ·obtain rfl : k = ns.length := by omega
    have HV : Hid (rgV ns = decide ((ns.length : Int) ≤ 30)) := by
     show _ = _
     unfold rgV
     rw [allB_of HA.out, Bool.and_true]
     rw [Bool.eq_iff_iff, decide_eq_true_eq, decide_eq_true_eq]
     omega
    go_wp2_with fail
    go_ret
    exact ⟨by rw [HV.out]; rfl, rfl⟩
def upd {α : Type} (f : Nat → α) (i : Nat) (v : α) (j : Nat) : α := if j = i then v else f j
def chr (c : UInt8) : ByteArray := ⟨#[c]⟩
def MvsC (w : World) (b off q : Nat) (M : Nat → Int) (L : Nat → ByteArray) : Prop :=
 ∀ k, k < q → w.cell? ⟨b, off + k * 2, none⟩ = some (.int .i64 (M k)) ∧ w.cell? ⟨b, off + k * 2 + 1, none⟩ = some (.string (L k))
theorem MvsC.at {w : World} {b off q : Nat} {M : Nat → Int} {L : Nat → ByteArray} (h : MvsC w b off q M L) (k : Nat) (hk : k < q) :
    w.cell? ⟨b, off + k * 2, none⟩ = some (.int .i64 (M k)) ∧ w.cell? ⟨b, off + k * 2 + 1, none⟩ = some (.string (L k)) := h k hk
theorem MvsC.keep {w w' : World} {b off q : Nat} {M : Nat → Int} {L : Nat → ByteArray} (h : MvsC w b off q M L) (hb : Below w.heap.size w w') : MvsC w' b off q M L := fun k hk => by
 obtain ⟨h1, h2⟩ := h k hk
 have hlt : b < w.heap.size := World.block_lt_of_cell? w ⟨b, off + k * 2, none⟩ h1
 exact ⟨by rw [hb.cell (p := ⟨b, off + k * 2, none⟩) hlt]; exact h1, by rw [hb.cell (p := ⟨b, off + k * 2 + 1, none⟩) hlt]; exact h2⟩
def mvF (M : Nat → Int) (L : Nat → ByteArray) (i : Nat) : Value := if i % 2 = 0 then .int .i64 (M (i / 2)) else .string (L (i / 2))
theorem MvsC.of_own {w : World} {g cap n : Nat} {M : Nat → Int} {L : Nat → ByteArray} {t : TypeId} (h : Own w g cap n 2 t (mvF M L)) : MvsC w g 0 n M L := fun k hk => by
 have h0 := h.cell (i := k * 2) (by omega)
 have h1 := h.cell (i := k * 2 + 1) (by omega)
 rw [Nat.zero_add]
 refine ⟨?_, ?_⟩
 ·rw [h0]; unfold mvF; rw [if_pos (by omega), show k * 2 / 2 = k by omega]
 ·rw [h1]; unfold mvF; rw [if_neg (by omega), show (k * 2 + 1) / 2 = k by omega]
theorem elMv : Elem Tryz.prog 151 155 (.agg #[.int .i64 0, .string ⟨#[]⟩]) 2 24 := ⟨Tryz.underlying151, by kernel_rfl, rfl, by decide⟩
theorem own_full (w : World) (z : Array Value) (n s : Nat) (t : TypeId) (f : Nat → Value) (hc : n ≤ maxLen) (hz : z.size = s) (hs : 0 < s) (hf : ∀ i, i < n * s → z[i % s]? = some (f i)) : Own (w.alloc (.cells (madeCells z (n * s)) t)) w.heap.size n n s t f :=
 ⟨Nat.le_refl _, hc, _, heap_alloc_new _ _, by rw [size_madeCells], fun i hi => by
  have h := hf i hi
  have hm : i % s < s := Nat.mod_lt _ hs
  simp only [madeCells]
  simp [hi, hz]
  rw [Array.getElem?_eq_getElem (by omega)] at h
  simpa [Array.getD, hz, hm] using h⟩
theorem mvF_congr {M M' : Nat → Int} {L L' : Nat → ByteArray} {n : Nat} (h1 : ∀ k, k < n → M k = M' k) (h2 : ∀ k, k < n → L k = L' k) : ∀ i, i < n * 2 → mvF M L i = mvF M' L' i := fun i hi => by
 unfold mvF
 rw [h1 _ (by omega), h2 _ (by omega)]
def RowI (w : World) (v : Value) (n : Nat) (f : Nat → Int) (g : Option Nat) : Prop :=
 (∃ b c, g = some b ∧ v = .slice (some ⟨b, 0, none⟩) n c ∧ Own w b c n 1 3 (fun i => .int .i64 (f i))) ∨ (g = none ∧ n = 0 ∧ v = .slice none 0 0)
theorem RowI.reads {w : World} {v : Value} {n : Nat} {f : Nat → Int} {g : Option Nat} (h : RowI w v n f g) : SL w v n f := by
 rcases h with ⟨b, c, e, e2, h⟩ | ⟨e, e2, e3⟩
 ·exact .inl ⟨b, 0, c, e2, IC.of_own h⟩
 ·exact .inr ⟨e2, _, _, e3⟩
theorem mvF_one (M : Nat → Int) (L : Nat → ByteArray) (i : Nat) : (mvF M L i).oneCell' = true := by unfold mvF; split <;> rfl
theorem ic_new {w : World} {b off n : Nat} {f : Nat → Int} (h : IC w b off n f) : ∀ j, j < n * 1 → w.cell? ((⟨b, off, none⟩ : Addr).add j) = some ((fun i => Value.int .i64 (f i)) (0 * 1 + j)) := by
 intro j hj
 rw [addr_add, h j (by omega)]
 simp
theorem clone_any (b off n c : Nat) (f : Nat → Int) (w : World) (hn : n ≤ 1000000000000) (hc : IC w b off n f) :
    Calls Tryz.prog 158 #[.slice (some ⟨b, off, none⟩) n c] w fun e w' => ∃ g c', e = .returned (.slice (some ⟨g, 0, none⟩) n c') ∧ w.heap.size ≤ g ∧ Own w' g c' n 1 3 (fun i => .int .i64 (f i)) ∧ Below w.heap.size w w' := by
  have hnil := fun w => Lib.run_eql_slice_nil (P := Tryz.prog) w 29 3 (some ⟨b, off, none⟩) n c 0 0 Tryz.underlying29
  have hbb : ∀ a, Below w.heap.size w (w.alloc a) := fun a => (Below.refl _ _).alloc (Nat.le_refl _) _
  have HC := Lib.hid hc
  clear hc
  go_enter Tryz.func158, Tryz.ntmps158
  go_wp2_with (at_builtin; refine wpList_app elInt rfl (.tmp 5) (.tmp 6) rfl (own_empty w 1 _ (fun i => .int .i64 (f i))) rfl ⟨b, off, none⟩ n c rfl (ic_new (HC.out.keep (hbb _))) (fun _ _ => rfl) (by unfold maxLen; omega) (by omega) ?_; intro g' c' wa HA hgr hd)
  have z := hgr.size
  rw [World.size_alloc] at z hd
  have hle : w.heap.size ≤ g' := by omega
  have hbl := (hbb (.cells #[] 3)).trans (below_of_grown hgr (Nat.le_refl _) (by simp))
  rw [Nat.zero_add] at HA
  have HO := Lib.hid HA
  have HBL := Lib.hid hbl
  clear HA hbl hgr hd
  go_wp2_with fail
  go_ret
  exact ⟨g', c', by simp, hle, HO.out, HBL.out⟩
end Go.Proofs.YtlkdmpfifpkpaaaGreatDoor

