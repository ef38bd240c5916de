/-
  Walks on blocks: BlockNext of the program.
-/
import Derived.Test.YtbachpfgakjncaaBv
import Derived.Test.YtbachpfgakjncaaSb
namespace Go.Proofs.Ytbachpfgakjncaa
open Go.RowKit

/-- the seven letters -/
def eL : List UInt8 := [97, 99, 101, 102, 108, 111, 114]
/-- those of the first m that a state takes -/
def nxT (k m : Nat) : List UInt8 := (eL.take m).filter (fun c => decide (nx k c.toNat < 5))
theorem nxT_none : ∀ k, nxT (k + 5) 7 = [] := fun k => by simp [nxT, nx]
theorem nxT_no {k : Nat} (h : ¬ k < 5) : nxT k 7 = [] := by
  obtain ⟨j, rfl⟩ : ∃ j, k = j + 5 := ⟨k - 5, by omega⟩
  exact nxT_none j
theorem nxT_len (k m : Nat) : (nxT k m).length ≤ 7 := by
  refine Nat.le_trans (List.length_filter_le _ _) ?_
  simp [eL]
  omega
theorem nxT_yes {k m : Nat} {c : UInt8} (hc : eL[m]? = some c) (h : nx k c.toNat < 5) : nxT k (m + 1) = nxT k m ++ [c] := by
  simp [nxT, List.take_add_one, hc, h]
theorem nxT_skip {k m : Nat} {c : UInt8} (hc : eL[m]? = some c) (h : ¬ nx k c.toNat < 5) : nxT k (m + 1) = nxT k m := by
  simp [nxT, List.take_add_one, hc, h]
/-- the loop's world: the builder -/
structure BnM (w wr : World) (b : Nat) (l : List UInt8) : Prop where
  sb : Sb w.heap.size b (Lib.byteCells l) wr
  bl : Below w.heap.size w wr
set_option linter.unusedSimpArgs false in
set_option maxRecDepth 100000 in
set_option maxHeartbeats 4000000 in
theorem next_any (n : Int) (i o : Bool) (w : World) :
    Calls Try.prog 85 #[.agg #[.int .i64 n, .bool i, .bool o]] w fun e w' => e = .returned (.string ⟨(nxT (stI n i o) 7).toArray⟩) ∧ Below w.heap.size w w' := by
  have HW : Hid (Below w.heap.size w (w.alloc (.cells #[.int .i64 n, .bool i, .bool o] 75))) := below_all _ _
  by_cases h5 : ¬ stI n i o < 5
  · have HD : Hid (decide (stI n i o < 5) = false) := decide_eq_false h5
    have HJ := Lib.hid (nxT_no h5)
    clear h5
    go_enter Try.func85, Try.ntmps85
    go_wp2_with fail
    refine (instr_any n i o _).mono ?_
    rintro e w1 ⟨rfl, hb⟩
    have HB := Lib.hid (HW.out.trans (hb.mono (by simp)))
    clear hb
    rw [HD.out]
    go_wp2_with fail
    go_ret
    exact ⟨by rw [HJ.out]; rfl, HB.out⟩
  replace h5 := Decidable.not_not.1 h5
  have HD : Hid (decide (stI n i o < 5) = true) := decide_eq_true h5
  have HIV := Lib.hid (inV_at h5)
  go_enter Try.func85, Try.ntmps85
  go_wp2_with fail
  refine (instr_any n i o _).mono ?_
  rintro e w1 ⟨rfl, hb⟩
  have HB := Lib.hid (HW.out.trans (hb.mono (by simp)))
  clear hb
  rw [HD.out, HIV.out]
  go_wp2_with fail
  go_loopw [6, 7, 8, 16] (fun _ _ _ si wr => ∃ m : Nat, m ≤ 7 ∧ si = .int .i64 m ∧ Hid (BnM w wr w1.heap.size (nxT (stI n i o) m))) (fun _ _ _ si _ => 7 - (intOf si).toNat)
  case atStart => exact ⟨0, by omega, rfl, Lib.hid ⟨Or.inl ⟨HB.out.size, .slice none 0 0, Bx.new _ _ _, ⟨rfl, Or.inl ⟨rfl, rfl⟩⟩, by simp [Value.ownBlock]⟩, HB.out.alloc HB.out.size _⟩⟩
  case round =>
    obtain ⟨m, hm, rfl, HM⟩ := hrel
    obtain rfl | rfl | rfl | rfl | rfl | rfl | rfl | rfl : m = 0 ∨ m = 1 ∨ m = 2 ∨ m = 3 ∨ m = 4 ∨ m = 5 ∨ m = 6 ∨ m = 7 := by omega
    · by_cases h1 : nx (stI n i o) ((97 : Nat) : Int) < 5
      · have HN := Lib.hid (nxT_yes (k := stI n i o) (m := 0) (c := 97) rfl h1)
        have HD : Hid (decide (nx (stI n i o) ((97 : Nat) : Int) < 5) = true) := decide_eq_true h1
        clear h1
        go_wp2_with fail
        refine (stateBehind_any _ ((97 : Nat) : Int) _ h5).mono ?_
        rintro e w2 ⟨rfl, rfl⟩
        rw [HD.out]
        go_wp2_with fail
        refine (writeByte_any w.heap.size w1.heap.size _ ((97 : Nat) : Int) _ HM.out.sb (by have := nxT_len (stI n i o) 0; simp [Lib.byteCells_length]; omega) HM.out.bl.size).mono ?_
        rintro e w3 ⟨rfl, hs, hb⟩
        have HS := Lib.hid hs
        have HBB := Lib.hid hb
        clear hs hb
        go_wp2_with fail
        go_roundw
        case rel => exact ⟨0 + 1, by omega, by go_num, Lib.hid ⟨by rw [HN.out]; exact Or.inr (by simpa [Lib.byteCells] using HS.out), HM.out.bl.trans HBB.out⟩⟩
        case measure => simp [intOf]
      · have HN := Lib.hid (nxT_skip (k := stI n i o) (m := 0) (c := 97) rfl h1)
        have HD : Hid (decide (nx (stI n i o) ((97 : Nat) : Int) < 5) = false) := decide_eq_false h1
        clear h1
        go_wp2_with fail
        refine (stateBehind_any _ ((97 : Nat) : Int) _ h5).mono ?_
        rintro e w2 ⟨rfl, rfl⟩
        rw [HD.out]
        go_wp2_with fail
        go_roundw
        case rel => exact ⟨0 + 1, by omega, by go_num, Lib.hid (by rw [HN.out]; exact HM.out)⟩
        case measure => simp [intOf]
    · by_cases h1 : nx (stI n i o) ((99 : Nat) : Int) < 5
      · have HN := Lib.hid (nxT_yes (k := stI n i o) (m := 1) (c := 99) rfl h1)
        have HD : Hid (decide (nx (stI n i o) ((99 : Nat) : Int) < 5) = true) := decide_eq_true h1
        clear h1
        go_wp2_with fail
        refine (stateBehind_any _ ((99 : Nat) : Int) _ h5).mono ?_
        rintro e w2 ⟨rfl, rfl⟩
        rw [HD.out]
        go_wp2_with fail
        refine (writeByte_any w.heap.size w1.heap.size _ ((99 : Nat) : Int) _ HM.out.sb (by have := nxT_len (stI n i o) 1; simp [Lib.byteCells_length]; omega) HM.out.bl.size).mono ?_
        rintro e w3 ⟨rfl, hs, hb⟩
        have HS := Lib.hid hs
        have HBB := Lib.hid hb
        clear hs hb
        go_wp2_with fail
        go_roundw
        case rel => exact ⟨1 + 1, by omega, by go_num, Lib.hid ⟨by rw [HN.out]; exact Or.inr (by simpa [Lib.byteCells] using HS.out), HM.out.bl.trans HBB.out⟩⟩
        case measure => simp [intOf]
      · have HN := Lib.hid (nxT_skip (k := stI n i o) (m := 1) (c := 99) rfl h1)
        have HD : Hid (decide (nx (stI n i o) ((99 : Nat) : Int) < 5) = false) := decide_eq_false h1
        clear h1
        go_wp2_with fail
        refine (stateBehind_any _ ((99 : Nat) : Int) _ h5).mono ?_
        rintro e w2 ⟨rfl, rfl⟩
        rw [HD.out]
        go_wp2_with fail
        go_roundw
        case rel => exact ⟨1 + 1, by omega, by go_num, Lib.hid (by rw [HN.out]; exact HM.out)⟩
        case measure => simp [intOf]
    · by_cases h1 : nx (stI n i o) ((101 : Nat) : Int) < 5
      · have HN := Lib.hid (nxT_yes (k := stI n i o) (m := 2) (c := 101) rfl h1)
        have HD : Hid (decide (nx (stI n i o) ((101 : Nat) : Int) < 5) = true) := decide_eq_true h1
        clear h1
        go_wp2_with fail
        refine (stateBehind_any _ ((101 : Nat) : Int) _ h5).mono ?_
        rintro e w2 ⟨rfl, rfl⟩
        rw [HD.out]
        go_wp2_with fail
        refine (writeByte_any w.heap.size w1.heap.size _ ((101 : Nat) : Int) _ HM.out.sb (by have := nxT_len (stI n i o) 2; simp [Lib.byteCells_length]; omega) HM.out.bl.size).mono ?_
        rintro e w3 ⟨rfl, hs, hb⟩
        have HS := Lib.hid hs
        have HBB := Lib.hid hb
        clear hs hb
        go_wp2_with fail
        go_roundw
        case rel => exact ⟨2 + 1, by omega, by go_num, Lib.hid ⟨by rw [HN.out]; exact Or.inr (by simpa [Lib.byteCells] using HS.out), HM.out.bl.trans HBB.out⟩⟩
        case measure => simp [intOf]
      · have HN := Lib.hid (nxT_skip (k := stI n i o) (m := 2) (c := 101) rfl h1)
        have HD : Hid (decide (nx (stI n i o) ((101 : Nat) : Int) < 5) = false) := decide_eq_false h1
        clear h1
        go_wp2_with fail
        refine (stateBehind_any _ ((101 : Nat) : Int) _ h5).mono ?_
        rintro e w2 ⟨rfl, rfl⟩
        rw [HD.out]
        go_wp2_with fail
        go_roundw
        case rel => exact ⟨2 + 1, by omega, by go_num, Lib.hid (by rw [HN.out]; exact HM.out)⟩
        case measure => simp [intOf]
    · by_cases h1 : nx (stI n i o) ((102 : Nat) : Int) < 5
      · have HN := Lib.hid (nxT_yes (k := stI n i o) (m := 3) (c := 102) rfl h1)
        have HD : Hid (decide (nx (stI n i o) ((102 : Nat) : Int) < 5) = true) := decide_eq_true h1
        clear h1
        go_wp2_with fail
        refine (stateBehind_any _ ((102 : Nat) : Int) _ h5).mono ?_
        rintro e w2 ⟨rfl, rfl⟩
        rw [HD.out]
        go_wp2_with fail
        refine (writeByte_any w.heap.size w1.heap.size _ ((102 : Nat) : Int) _ HM.out.sb (by have := nxT_len (stI n i o) 3; simp [Lib.byteCells_length]; omega) HM.out.bl.size).mono ?_
        rintro e w3 ⟨rfl, hs, hb⟩
        have HS := Lib.hid hs
        have HBB := Lib.hid hb
        clear hs hb
        go_wp2_with fail
        go_roundw
        case rel => exact ⟨3 + 1, by omega, by go_num, Lib.hid ⟨by rw [HN.out]; exact Or.inr (by simpa [Lib.byteCells] using HS.out), HM.out.bl.trans HBB.out⟩⟩
        case measure => simp [intOf]
      · have HN := Lib.hid (nxT_skip (k := stI n i o) (m := 3) (c := 102) rfl h1)
        have HD : Hid (decide (nx (stI n i o) ((102 : Nat) : Int) < 5) = false) := decide_eq_false h1
        clear h1
        go_wp2_with fail
        refine (stateBehind_any _ ((102 : Nat) : Int) _ h5).mono ?_
        rintro e w2 ⟨rfl, rfl⟩
        rw [HD.out]
        go_wp2_with fail
        go_roundw
        case rel => exact ⟨3 + 1, by omega, by go_num, Lib.hid (by rw [HN.out]; exact HM.out)⟩
        case measure => simp [intOf]
    · by_cases h1 : nx (stI n i o) ((108 : Nat) : Int) < 5
      · have HN := Lib.hid (nxT_yes (k := stI n i o) (m := 4) (c := 108) rfl h1)
        have HD : Hid (decide (nx (stI n i o) ((108 : Nat) : Int) < 5) = true) := decide_eq_true h1
        clear h1
        go_wp2_with fail
        refine (stateBehind_any _ ((108 : Nat) : Int) _ h5).mono ?_
        rintro e w2 ⟨rfl, rfl⟩
        rw [HD.out]
        go_wp2_with fail
        refine (writeByte_any w.heap.size w1.heap.size _ ((108 : Nat) : Int) _ HM.out.sb (by have := nxT_len (stI n i o) 4; simp [Lib.byteCells_length]; omega) HM.out.bl.size).mono ?_
        rintro e w3 ⟨rfl, hs, hb⟩
        have HS := Lib.hid hs
        have HBB := Lib.hid hb
        clear hs hb
        go_wp2_with fail
        go_roundw
        case rel => exact ⟨4 + 1, by omega, by go_num, Lib.hid ⟨by rw [HN.out]; exact Or.inr (by simpa [Lib.byteCells] using HS.out), HM.out.bl.trans HBB.out⟩⟩
        case measure => simp [intOf]
      · have HN := Lib.hid (nxT_skip (k := stI n i o) (m := 4) (c := 108) rfl h1)
        have HD : Hid (decide (nx (stI n i o) ((108 : Nat) : Int) < 5) = false) := decide_eq_false h1
        clear h1
        go_wp2_with fail
        refine (stateBehind_any _ ((108 : Nat) : Int) _ h5).mono ?_
        rintro e w2 ⟨rfl, rfl⟩
        rw [HD.out]
        go_wp2_with fail
        go_roundw
        case rel => exact ⟨4 + 1, by omega, by go_num, Lib.hid (by rw [HN.out]; exact HM.out)⟩
        case measure => simp [intOf]
    · by_cases h1 : nx (stI n i o) ((111 : Nat) : Int) < 5
      · have HN := Lib.hid (nxT_yes (k := stI n i o) (m := 5) (c := 111) rfl h1)
        have HD : Hid (decide (nx (stI n i o) ((111 : Nat) : Int) < 5) = true) := decide_eq_true h1
        clear h1
        go_wp2_with fail
        refine (stateBehind_any _ ((111 : Nat) : Int) _ h5).mono ?_
        rintro e w2 ⟨rfl, rfl⟩
        rw [HD.out]
        go_wp2_with fail
        refine (writeByte_any w.heap.size w1.heap.size _ ((111 : Nat) : Int) _ HM.out.sb (by have := nxT_len (stI n i o) 5; simp [Lib.byteCells_length]; omega) HM.out.bl.size).mono ?_
        rintro e w3 ⟨rfl, hs, hb⟩
        have HS := Lib.hid hs
        have HBB := Lib.hid hb
        clear hs hb
        go_wp2_with fail
        go_roundw
        case rel => exact ⟨5 + 1, by omega, by go_num, Lib.hid ⟨by rw [HN.out]; exact Or.inr (by simpa [Lib.byteCells] using HS.out), HM.out.bl.trans HBB.out⟩⟩
        case measure => simp [intOf]
      · have HN := Lib.hid (nxT_skip (k := stI n i o) (m := 5) (c := 111) rfl h1)
        have HD : Hid (decide (nx (stI n i o) ((111 : Nat) : Int) < 5) = false) := decide_eq_false h1
        clear h1
        go_wp2_with fail
        refine (stateBehind_any _ ((111 : Nat) : Int) _ h5).mono ?_
        rintro e w2 ⟨rfl, rfl⟩
        rw [HD.out]
        go_wp2_with fail
        go_roundw
        case rel => exact ⟨5 + 1, by omega, by go_num, Lib.hid (by rw [HN.out]; exact HM.out)⟩
        case measure => simp [intOf]
    · by_cases h1 : nx (stI n i o) ((114 : Nat) : Int) < 5
      · have HN := Lib.hid (nxT_yes (k := stI n i o) (m := 6) (c := 114) rfl h1)
        have HD : Hid (decide (nx (stI n i o) ((114 : Nat) : Int) < 5) = true) := decide_eq_true h1
        clear h1
        go_wp2_with fail
        refine (stateBehind_any _ ((114 : Nat) : Int) _ h5).mono ?_
        rintro e w2 ⟨rfl, rfl⟩
        rw [HD.out]
        go_wp2_with fail
        refine (writeByte_any w.heap.size w1.heap.size _ ((114 : Nat) : Int) _ HM.out.sb (by have := nxT_len (stI n i o) 6; simp [Lib.byteCells_length]; omega) HM.out.bl.size).mono ?_
        rintro e w3 ⟨rfl, hs, hb⟩
        have HS := Lib.hid hs
        have HBB := Lib.hid hb
        clear hs hb
        go_wp2_with fail
        go_roundw
        case rel => exact ⟨6 + 1, by omega, by go_num, Lib.hid ⟨by rw [HN.out]; exact Or.inr (by simpa [Lib.byteCells] using HS.out), HM.out.bl.trans HBB.out⟩⟩
        case measure => simp [intOf]
      · have HN := Lib.hid (nxT_skip (k := stI n i o) (m := 6) (c := 114) rfl h1)
        have HD : Hid (decide (nx (stI n i o) ((114 : Nat) : Int) < 5) = false) := decide_eq_false h1
        clear h1
        go_wp2_with fail
        refine (stateBehind_any _ ((114 : Nat) : Int) _ h5).mono ?_
        rintro e w2 ⟨rfl, rfl⟩
        rw [HD.out]
        go_wp2_with fail
        go_roundw
        case rel => exact ⟨6 + 1, by omega, by go_num, Lib.hid (by rw [HN.out]; exact HM.out)⟩
        case measure => simp [intOf]
    · go_wp2_with fail
      refine (string_any w.heap.size _ _ _ HM.out.sb HM.out.bl.size).mono ?_
      rintro e w3 ⟨rfl, hb⟩
      have HB3 := Lib.hid (HM.out.bl.trans hb)
      clear hb
      go_wp2_with fail
      go_ret
      exact ⟨rfl, HB3.out⟩
end Go.Proofs.Ytbachpfgakjncaa
