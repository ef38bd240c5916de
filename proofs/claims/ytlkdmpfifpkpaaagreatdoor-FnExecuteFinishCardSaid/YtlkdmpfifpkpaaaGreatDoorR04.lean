/-
  Parts of the proof of fnExecuteFinish_proved: Bn Bl Cb Cl Lp Ra Rb Rc. No condition.
-/
import Derived.Test.YtlkdmpfifpkpaaaGreatDoorChecked
import Derived.Shelf.Strings.Builder1
import Derived.Shelf.Strings.Builder2
import Derived.Shelf.Strings.OnBuilder
import Derived.Shelf.Strings.BuilderF
import Derived.Shelf.Strconv.Itoa0
import Derived.Shelf.Strconv.Itoa1
import Derived.Shelf.LaysM
import Derived.Shelf.Strconv.Itoa2
import Derived.Shelf.Strconv.Itoa3
import Derived.Shelf.Strings.Search1
import Derived.Shelf.Strings.Search2
import Derived.Shelf.Strings.Search3
import Derived.Shelf.Strings.Count
import Derived.Shelf.Strings.Shaped
import Derived.Shelf.Strings.Split
import Derived.Shelf.Strings.SplitShaped
import Derived.Shelf.Unicode.DecodeSlow
import Derived.Test.YtlkdmpfifpkpaaaGreatDoorProg
import Derived.WalkKit
import Derived.WalkSpells
import Derived.WalkLawsBesides
import Derived.Lib.Hide
import Derived.BigQuiet
import Derived.Deep.QuietTactic
import Derived.Deep.RegionHeld3
import Derived.Deep.DeepFit
import Derived.Lib.Strings
import Derived.Lib.Builder
import Derived.Lib.AppendStr
import Derived.Lib.UnsafeStr
import Derived.Lib.Slices
import Derived.Laws.Externs
import Derived.Laws.BitsAllLaws
import Derived.Lib.IndexLaws
import Derived.Deep.RegionWith
import Derived.Lib.SlBytesRow
import Derived.Deep.DeepCutAuto
import Derived.Test.YtlkdmpfifpkpaaaGreatDoorR01
import Derived.Test.YtlkdmpfifpkpaaaGreatDoorR02
import Derived.Test.YtlkdmpfifpkpaaaGreatDoorR03
namespace Go.Proofs.YtlkdmpfifpkpaaaGreatDoor
open Go.RowKit

/-- the seven letters -/
def eL : List UInt8 := [97, 99, 101, 102, 108, 111, 114]
/-- those of the first m that a state takes -/
def nxT (k m : Nat) : List UInt8 := (eL.take m).filter (fun c => decide (nx k c.toNat < 5))
theorem nxT_none : ∀ k, nxT (k + 5) 7 = [] := fun k => by simp [nxT, nx]
theorem nxT_no {k : Nat} (h : ¬ k < 5) : nxT k 7 = [] := by
  obtain ⟨j, rfl⟩ : ∃ j, k = j + 5 := ⟨k - 5, by omega⟩
  exact nxT_none j
theorem nxT_len (k m : Nat) : (nxT k m).length ≤ 7 := by
  refine Nat.le_trans (List.length_filter_le _ _) ?_
  simp [eL]
  omega
theorem nxT_yes {k m : Nat} {c : UInt8} (hc : eL[m]? = some c) (h : nx k c.toNat < 5) : nxT k (m + 1) = nxT k m ++ [c] := by
  simp [nxT, List.take_add_one, hc, h]
theorem nxT_skip {k m : Nat} {c : UInt8} (hc : eL[m]? = some c) (h : ¬ nx k c.toNat < 5) : nxT k (m + 1) = nxT k m := by
  simp [nxT, List.take_add_one, hc, h]
/-- the loop's world: the builder -/
structure BnM (w wr : World) (b : Nat) (l : List UInt8) : Prop where
  sb : Sb w.heap.size b (Lib.byteCells l) wr
  bl : Below w.heap.size w wr
set_option linter.unusedSimpArgs false in
set_option maxRecDepth 100000 in
set_option maxHeartbeats 4000000 in
theorem next_any (n : Int) (i o : Bool) (w : World) :
    Calls Tryz.prog 167 #[.agg #[.int .i64 n, .bool i, .bool o]] w fun e w' => e = .returned (.string ⟨(nxT (stI n i o) 7).toArray⟩) ∧ Below w.heap.size w w' := by
  have HW : Hid (Below w.heap.size w (w.alloc (.cells #[.int .i64 n, .bool i, .bool o] 76))) := below_all _ _
  by_cases h5 : ¬ stI n i o < 5
  · have HD : Hid (decide (stI n i o < 5) = false) := decide_eq_false h5
    have HJ := Lib.hid (nxT_no h5)
    clear h5
    go_enter Tryz.func167, Tryz.ntmps167
    go_wp2_with fail
    refine (instr_any n i o _).mono ?_
    rintro e w1 ⟨rfl, hb⟩
    have HB := Lib.hid (HW.out.trans (hb.mono (by simp)))
    clear hb
    rw [HD.out]
    go_wp2_with fail
    go_ret
    exact ⟨by rw [HJ.out]; rfl, HB.out⟩
  replace h5 := Decidable.not_not.1 h5
  have HD : Hid (decide (stI n i o < 5) = true) := decide_eq_true h5
  have HIV := Lib.hid (inV_at h5)
  go_enter Tryz.func167, Tryz.ntmps167
  go_wp2_with fail
  refine (instr_any n i o _).mono ?_
  rintro e w1 ⟨rfl, hb⟩
  have HB := Lib.hid (HW.out.trans (hb.mono (by simp)))
  clear hb
  rw [HD.out, HIV.out]
  go_wp2_with fail
  go_loopw [6, 7, 8, 16] (fun _ _ _ si wr => ∃ m : Nat, m ≤ 7 ∧ si = .int .i64 m ∧ Hid (BnM w wr w1.heap.size (nxT (stI n i o) m))) (fun _ _ _ si _ => 7 - (intOf si).toNat)
  case atStart => exact ⟨0, by omega, rfl, Lib.hid ⟨Or.inl ⟨HB.out.size, .slice none 0 0, Bx.new _ _ _, ⟨rfl, Or.inl ⟨rfl, rfl⟩⟩, by simp [Value.ownBlock]⟩, HB.out.alloc HB.out.size _⟩⟩
  case round =>
    obtain ⟨m, hm, rfl, HM⟩ := hrel
    obtain rfl | rfl | rfl | rfl | rfl | rfl | rfl | rfl : m = 0 ∨ m = 1 ∨ m = 2 ∨ m = 3 ∨ m = 4 ∨ m = 5 ∨ m = 6 ∨ m = 7 := by omega
    · by_cases h1 : nx (stI n i o) ((97 : Nat) : Int) < 5
      · have HN := Lib.hid (nxT_yes (k := stI n i o) (m := 0) (c := 97) rfl h1)
        have HD : Hid (decide (nx (stI n i o) ((97 : Nat) : Int) < 5) = true) := decide_eq_true h1
        clear h1
        go_wp2_with fail
        refine (stateBehind_any _ ((97 : Nat) : Int) _ h5).mono ?_
        rintro e w2 ⟨rfl, rfl⟩
        rw [HD.out]
        go_wp2_with fail
        refine (writeByte_any w.heap.size w1.heap.size _ ((97 : Nat) : Int) _ HM.out.sb (by have := nxT_len (stI n i o) 0; simp [Lib.byteCells_length]; omega) HM.out.bl.size).mono ?_
        rintro e w3 ⟨rfl, hs, hb⟩
        have HS := Lib.hid hs
        have HBB := Lib.hid hb
        clear hs hb
        go_wp2_with fail
        go_roundw
        case rel => exact ⟨0 + 1, by omega, by go_num, Lib.hid ⟨by rw [HN.out]; exact Or.inr (by simpa [Lib.byteCells] using HS.out), HM.out.bl.trans HBB.out⟩⟩
        case measure => simp [intOf]
      · have HN := Lib.hid (nxT_skip (k := stI n i o) (m := 0) (c := 97) rfl h1)
        have HD : Hid (decide (nx (stI n i o) ((97 : Nat) : Int) < 5) = false) := decide_eq_false h1
        clear h1
        go_wp2_with fail
        refine (stateBehind_any _ ((97 : Nat) : Int) _ h5).mono ?_
        rintro e w2 ⟨rfl, rfl⟩
        rw [HD.out]
        go_wp2_with fail
        go_roundw
        case rel => exact ⟨0 + 1, by omega, by go_num, Lib.hid (by rw [HN.out]; exact HM.out)⟩
        case measure => simp [intOf]
    · by_cases h1 : nx (stI n i o) ((99 : Nat) : Int) < 5
      · have HN := Lib.hid (nxT_yes (k := stI n i o) (m := 1) (c := 99) rfl h1)
        have HD : Hid (decide (nx (stI n i o) ((99 : Nat) : Int) < 5) = true) := decide_eq_true h1
        clear h1
        go_wp2_with fail
        refine (stateBehind_any _ ((99 : Nat) : Int) _ h5).mono ?_
        rintro e w2 ⟨rfl, rfl⟩
        rw [HD.out]
        go_wp2_with fail
        refine (writeByte_any w.heap.size w1.heap.size _ ((99 : Nat) : Int) _ HM.out.sb (by have := nxT_len (stI n i o) 1; simp [Lib.byteCells_length]; omega) HM.out.bl.size).mono ?_
        rintro e w3 ⟨rfl, hs, hb⟩
        have HS := Lib.hid hs
        have HBB := Lib.hid hb
        clear hs hb
        go_wp2_with fail
        go_roundw
        case rel => exact ⟨1 + 1, by omega, by go_num, Lib.hid ⟨by rw [HN.out]; exact Or.inr (by simpa [Lib.byteCells] using HS.out), HM.out.bl.trans HBB.out⟩⟩
        case measure => simp [intOf]
      · have HN := Lib.hid (nxT_skip (k := stI n i o) (m := 1) (c := 99) rfl h1)
        have HD : Hid (decide (nx (stI n i o) ((99 : Nat) : Int) < 5) = false) := decide_eq_false h1
        clear h1
        go_wp2_with fail
        refine (stateBehind_any _ ((99 : Nat) : Int) _ h5).mono ?_
        rintro e w2 ⟨rfl, rfl⟩
        rw [HD.out]
        go_wp2_with fail
        go_roundw
        case rel => exact ⟨1 + 1, by omega, by go_num, Lib.hid (by rw [HN.out]; exact HM.out)⟩
        case measure => simp [intOf]
    · by_cases h1 : nx (stI n i o) ((101 : Nat) : Int) < 5
      · have HN := Lib.hid (nxT_yes (k := stI n i o) (m := 2) (c := 101) rfl h1)
        have HD : Hid (decide (nx (stI n i o) ((101 : Nat) : Int) < 5) = true) := decide_eq_true h1
        clear h1
        go_wp2_with fail
        refine (stateBehind_any _ ((101 : Nat) : Int) _ h5).mono ?_
        rintro e w2 ⟨rfl, rfl⟩
        rw [HD.out]
        go_wp2_with fail
        refine (writeByte_any w.heap.size w1.heap.size _ ((101 : Nat) : Int) _ HM.out.sb (by have := nxT_len (stI n i o) 2; simp [Lib.byteCells_length]; omega) HM.out.bl.size).mono ?_
        rintro e w3 ⟨rfl, hs, hb⟩
        have HS := Lib.hid hs
        have HBB := Lib.hid hb
        clear hs hb
        go_wp2_with fail
        go_roundw
        case rel => exact ⟨2 + 1, by omega, by go_num, Lib.hid ⟨by rw [HN.out]; exact Or.inr (by simpa [Lib.byteCells] using HS.out), HM.out.bl.trans HBB.out⟩⟩
        case measure => simp [intOf]
      · have HN := Lib.hid (nxT_skip (k := stI n i o) (m := 2) (c := 101) rfl h1)
        have HD : Hid (decide (nx (stI n i o) ((101 : Nat) : Int) < 5) = false) := decide_eq_false h1
        clear h1
        go_wp2_with fail
        refine (stateBehind_any _ ((101 : Nat) : Int) _ h5).mono ?_
        rintro e w2 ⟨rfl, rfl⟩
        rw [HD.out]
        go_wp2_with fail
        go_roundw
        case rel => exact ⟨2 + 1, by omega, by go_num, Lib.hid (by rw [HN.out]; exact HM.out)⟩
        case measure => simp [intOf]
    · by_cases h1 : nx (stI n i o) ((102 : Nat) : Int) < 5
      · have HN := Lib.hid (nxT_yes (k := stI n i o) (m := 3) (c := 102) rfl h1)
        have HD : Hid (decide (nx (stI n i o) ((102 : Nat) : Int) < 5) = true) := decide_eq_true h1
        clear h1
        go_wp2_with fail
        refine (stateBehind_any _ ((102 : Nat) : Int) _ h5).mono ?_
        rintro e w2 ⟨rfl, rfl⟩
        rw [HD.out]
        go_wp2_with fail
        refine (writeByte_any w.heap.size w1.heap.size _ ((102 : Nat) : Int) _ HM.out.sb (by have := nxT_len (stI n i o) 3; simp [Lib.byteCells_length]; omega) HM.out.bl.size).mono ?_
        rintro e w3 ⟨rfl, hs, hb⟩
        have HS := Lib.hid hs
        have HBB := Lib.hid hb
        clear hs hb
        go_wp2_with fail
        go_roundw
        case rel => exact ⟨3 + 1, by omega, by go_num, Lib.hid ⟨by rw [HN.out]; exact Or.inr (by simpa [Lib.byteCells] using HS.out), HM.out.bl.trans HBB.out⟩⟩
        case measure => simp [intOf]
      · have HN := Lib.hid (nxT_skip (k := stI n i o) (m := 3) (c := 102) rfl h1)
        have HD : Hid (decide (nx (stI n i o) ((102 : Nat) : Int) < 5) = false) := decide_eq_false h1
        clear h1
        go_wp2_with fail
        refine (stateBehind_any _ ((102 : Nat) : Int) _ h5).mono ?_
        rintro e w2 ⟨rfl, rfl⟩
        rw [HD.out]
        go_wp2_with fail
        go_roundw
        case rel => exact ⟨3 + 1, by omega, by go_num, Lib.hid (by rw [HN.out]; exact HM.out)⟩
        case measure => simp [intOf]
    · by_cases h1 : nx (stI n i o) ((108 : Nat) : Int) < 5
      · have HN := Lib.hid (nxT_yes (k := stI n i o) (m := 4) (c := 108) rfl h1)
        have HD : Hid (decide (nx (stI n i o) ((108 : Nat) : Int) < 5) = true) := decide_eq_true h1
        clear h1
        go_wp2_with fail
        refine (stateBehind_any _ ((108 : Nat) : Int) _ h5).mono ?_
        rintro e w2 ⟨rfl, rfl⟩
        rw [HD.out]
        go_wp2_with fail
        refine (writeByte_any w.heap.size w1.heap.size _ ((108 : Nat) : Int) _ HM.out.sb (by have := nxT_len (stI n i o) 4; simp [Lib.byteCells_length]; omega) HM.out.bl.size).mono ?_
        rintro e w3 ⟨rfl, hs, hb⟩
        have HS := Lib.hid hs
        have HBB := Lib.hid hb
        clear hs hb
        go_wp2_with fail
        go_roundw
        case rel => exact ⟨4 + 1, by omega, by go_num, Lib.hid ⟨by rw [HN.out]; exact Or.inr (by simpa [Lib.byteCells] using HS.out), HM.out.bl.trans HBB.out⟩⟩
        case measure => simp [intOf]
      · have HN := Lib.hid (nxT_skip (k := stI n i o) (m := 4) (c := 108) rfl h1)
        have HD : Hid (decide (nx (stI n i o) ((108 : Nat) : Int) < 5) = false) := decide_eq_false h1
        clear h1
        go_wp2_with fail
        refine (stateBehind_any _ ((108 : Nat) : Int) _ h5).mono ?_
        rintro e w2 ⟨rfl, rfl⟩
        rw [HD.out]
        go_wp2_with fail
        go_roundw
        case rel => exact ⟨4 + 1, by omega, by go_num, Lib.hid (by rw [HN.out]; exact HM.out)⟩
        case measure => simp [intOf]
    · by_cases h1 : nx (stI n i o) ((111 : Nat) : Int) < 5
      · have HN := Lib.hid (nxT_yes (k := stI n i o) (m := 5) (c := 111) rfl h1)
        have HD : Hid (decide (nx (stI n i o) ((111 : Nat) : Int) < 5) = true) := decide_eq_true h1
        clear h1
        go_wp2_with fail
        refine (stateBehind_any _ ((111 : Nat) : Int) _ h5).mono ?_
        rintro e w2 ⟨rfl, rfl⟩
        rw [HD.out]
        go_wp2_with fail
        refine (writeByte_any w.heap.size w1.heap.size _ ((111 : Nat) : Int) _ HM.out.sb (by have := nxT_len (stI n i o) 5; simp [Lib.byteCells_length]; omega) HM.out.bl.size).mono ?_
        rintro e w3 ⟨rfl, hs, hb⟩
        have HS := Lib.hid hs
        have HBB := Lib.hid hb
        clear hs hb
        go_wp2_with fail
        go_roundw
        case rel => exact ⟨5 + 1, by omega, by go_num, Lib.hid ⟨by rw [HN.out]; exact Or.inr (by simpa [Lib.byteCells] using HS.out), HM.out.bl.trans HBB.out⟩⟩
        case measure => simp [intOf]
      · have HN := Lib.hid (nxT_skip (k := stI n i o) (m := 5) (c := 111) rfl h1)
        have HD : Hid (decide (nx (stI n i o) ((111 : Nat) : Int) < 5) = false) := decide_eq_false h1
        clear h1
        go_wp2_with fail
        refine (stateBehind_any _ ((111 : Nat) : Int) _ h5).mono ?_
        rintro e w2 ⟨rfl, rfl⟩
        rw [HD.out]
        go_wp2_with fail
        go_roundw
        case rel => exact ⟨5 + 1, by omega, by go_num, Lib.hid (by rw [HN.out]; exact HM.out)⟩
        case measure => simp [intOf]
    · by_cases h1 : nx (stI n i o) ((114 : Nat) : Int) < 5
      · have HN := Lib.hid (nxT_yes (k := stI n i o) (m := 6) (c := 114) rfl h1)
        have HD : Hid (decide (nx (stI n i o) ((114 : Nat) : Int) < 5) = true) := decide_eq_true h1
        clear h1
        go_wp2_with fail
        refine (stateBehind_any _ ((114 : Nat) : Int) _ h5).mono ?_
        rintro e w2 ⟨rfl, rfl⟩
        rw [HD.out]
        go_wp2_with fail
        refine (writeByte_any w.heap.size w1.heap.size _ ((114 : Nat) : Int) _ HM.out.sb (by have := nxT_len (stI n i o) 6; simp [Lib.byteCells_length]; omega) HM.out.bl.size).mono ?_
        rintro e w3 ⟨rfl, hs, hb⟩
        have HS := Lib.hid hs
        have HBB := Lib.hid hb
        clear hs hb
        go_wp2_with fail
        go_roundw
        case rel => exact ⟨6 + 1, by omega, by go_num, Lib.hid ⟨by rw [HN.out]; exact Or.inr (by simpa [Lib.byteCells] using HS.out), HM.out.bl.trans HBB.out⟩⟩
        case measure => simp [intOf]
      · have HN := Lib.hid (nxT_skip (k := stI n i o) (m := 6) (c := 114) rfl h1)
        have HD : Hid (decide (nx (stI n i o) ((114 : Nat) : Int) < 5) = false) := decide_eq_false h1
        clear h1
        go_wp2_with fail
        refine (stateBehind_any _ ((114 : Nat) : Int) _ h5).mono ?_
        rintro e w2 ⟨rfl, rfl⟩
        rw [HD.out]
        go_wp2_with fail
        go_roundw
        case rel => exact ⟨6 + 1, by omega, by go_num, Lib.hid (by rw [HN.out]; exact HM.out)⟩
        case measure => simp [intOf]
    · go_wp2_with fail
      refine (string_any w.heap.size _ _ _ HM.out.sb HM.out.bl.size).mono ?_
      rintro e w3 ⟨rfl, hb⟩
      have HB3 := Lib.hid (HM.out.bl.trans hb)
      clear hb
      go_wp2_with fail
      go_ret
      exact ⟨rfl, HB3.out⟩
end Go.Proofs.YtlkdmpfifpkpaaaGreatDoor
namespace Go.Proofs.YtlkdmpfifpkpaaaGreatDoor
open Go.RowKit

/-- a row of blocks -/
def BkC (w : World) (b off n : Nat) (N : Nat → Int) (I O : Nat → Bool) : Prop :=
  ∀ k, k < n → w.cell? ⟨b, off + k * 3, none⟩ = some (.int .i64 (N k)) ∧ w.cell? ⟨b, off + k * 3 + 1, none⟩ = some (.bool (I k)) ∧ w.cell? ⟨b, off + k * 3 + 2, none⟩ = some (.bool (O k))
theorem BkC.at {w : World} {b off n : Nat} {N : Nat → Int} {I O : Nat → Bool} (h : BkC w b off n N I O) (k : Nat) (hk : k < n) :
    w.cell? ⟨b, off + k * 3, none⟩ = some (.int .i64 (N k)) ∧ w.cell? ⟨b, off + k * 3 + 1, none⟩ = some (.bool (I k)) ∧ w.cell? ⟨b, off + k * 3 + 2, none⟩ = some (.bool (O k)) := h k hk
theorem BkC.below {w w' : World} {b off n B : Nat} {N : Nat → Int} {I O : Nat → Bool} (h : BkC w b off n N I O) (hb : Below B w w') (hB : b < B) : BkC w' b off n N I O := fun k hk => by
  obtain ⟨h1, h2, h3⟩ := h k hk
  exact ⟨by rw [hb.cell (p := ⟨b, off + k * 3, none⟩) hB]; exact h1, by rw [hb.cell (p := ⟨b, off + k * 3 + 1, none⟩) hB]; exact h2, by rw [hb.cell (p := ⟨b, off + k * 3 + 2, none⟩) hB]; exact h3⟩

/-- how many of the first m stand at a place -/
def cntA (f : Nat → Int) (p : Int) : Nat → Nat
  | 0 => 0
  | m + 1 => cntA f p m + if f m = p then 1 else 0
theorem cntA_le (f : Nat → Int) (p : Int) : ∀ m, cntA f p m ≤ m
  | 0 => Nat.le_refl _
  | m + 1 => by
    have := cntA_le f p m
    simp only [cntA]
    split <;> omega
set_option linter.unusedSimpArgs false in
theorem count_any (r : Nat) (bv : Value) (b off n c : Nat) (f : Nat → Int) (p : Int) (w : World) (hn : n ≤ 1000000000000) (hr : Bx w r 195 #[bv, .slice (some ⟨b, off, none⟩) n c]) (hc : IC w b off n f) :
    Calls Tryz.prog 160 #[.pointer (some ⟨r, 0, none⟩), .int .i64 p] w fun e w' => e = .returned (.int .i64 (cntA f p n)) ∧ w = w' := by
  have hrc := hr.cell
  clear hr
  go_enter Tryz.func160, Tryz.ntmps160
  go_wp2_with fail
  go_loop [5, 7, 13] (fun s _ si => ∃ k : Nat, k ≤ n ∧ si = .int .i64 k ∧ s = .int .i64 (cntA f p k)) (fun _ _ si => n - (intOf si).toNat)
  case atStart => exact ⟨0, Nat.zero_le _, rfl, rfl⟩
  case round =>
    obtain ⟨k, hk, rfl, rfl⟩ := hrel
    have hle := cntA_le f p k
    by_cases hlt : k < n
    · have hck := hc.at k hlt
      by_cases h1 : f k = p
      · have h2 : (f k == p) = true := by simp [h1]
        have HE : Hid (cntA f p (k + 1) = cntA f p k + 1) := by show _ = _; simp [cntA, h1]
        clear h1
        go_wp2_with fail
        go_round
        case rel => exact ⟨k + 1, by omega, by go_num, by rw [HE.out]; go_num⟩
        case measure => simp [intOf]; omega
      · have h2 : (f k == p) = false := by simp [h1]
        have HE : Hid (cntA f p (k + 1) = cntA f p k) := by show _ = _; simp [cntA, h1]
        clear h1
        go_wp2_with fail
        go_round
        case rel => exact ⟨k + 1, by omega, by go_num, by rw [HE.out]⟩
        case measure => simp [intOf]; omega
    · have e : k = n := by omega
      subst e
      go_wp2_with fail
      go_ret
      exact ⟨rfl, rfl⟩
theorem sectionsValid_any (n : Int) (w : World) (_hn : -9223372036854775808 ≤ n ∧ n ≤ 9223372036854775807) :
    Calls Tryz.prog 42 #[.int .i64 n] w fun e w' => e = .returned (.bool (inB n 1 5)) ∧ w = w' := by
  by_cases h : 1 ≤ n
  · have g : decide (1 ≤ n) = true := decide_eq_true h
    have H : Hid (inB n 1 5 = decide (n ≤ 5)) := by show _ = _; unfold inB; rw [g]; rfl
    go_enter Tryz.func42, Tryz.ntmps42
    go_wp2
    go_ret
    exact ⟨retB (by rw [H.out]), rfl⟩
  · have g : decide (1 ≤ n) = false := decide_eq_false h
    have H : Hid (inB n 1 5 = false) := by show _ = _; unfold inB; rw [g]; rfl
    go_enter Tryz.func42, Tryz.ntmps42
    go_wp2
    go_ret
    exact ⟨retB (by rw [H.out]), rfl⟩

/-- a block of a row is possible -/
def posB (N : Nat → Int) (I O : Nat → Bool) (k : Nat) : Bool := decide (stI (N k) (I k) (O k) < 5)
set_option linter.unusedSimpArgs false in
set_option maxHeartbeats 1000000 in
theorem blkPossible_any (b off n c : Nat) (N : Nat → Int) (I O : Nat → Bool) (w : World) (hn : n ≤ 1000000000000) (hc : BkC w b off n N I O) (hb : b < w.heap.size) :
    Calls Tryz.prog 159 #[.slice (some ⟨b, off, none⟩) n c] w fun e w' => e = .returned (.bool (inB n 1 5 && allB n (posB N I O))) ∧ Below w.heap.size w w' := by
  have HC := Lib.hid hc
  have HB := Lib.hid hb
  clear hc hb
  by_cases h1 : inB n 1 5 = true
  · go_enter Tryz.func159, Tryz.ntmps159
    go_wp2_with fail
    refine (sectionsValid_any _ _ (by omega)).mono ?_
    rintro e w' ⟨rfl, rfl⟩
    rw [h1]
    have H1 := Lib.hid h1
    clear h1
    go_wp2_with fail
    go_loopw [4, 11] (fun _ si wr => ∃ k : Nat, k ≤ n ∧ si = .int .i64 k ∧ Hid (∀ j, j < k → posB N I O j = true) ∧ Hid (Below w.heap.size w wr)) (fun _ si _ => n - (intOf si).toNat)
    case atStart => exact ⟨0, Nat.zero_le _, rfl, Lib.hid (fun j hj => by omega), Lib.hid (Below.refl _ _)⟩
    case round =>
      obtain ⟨k, hk, rfl, HA, HW⟩ := hrel
      by_cases hlt : k < n
      · obtain ⟨c0, c1, c2⟩ := (HC.out.below HW.out HB.out).at k hlt
        have HWB : Hid (∀ a, Below w.heap.size w (wr.alloc a)) := fun a => HW.out.alloc HW.out.size _
        by_cases h2 : posB N I O k = true
        · have HE := Lib.hid h2
          have h3 : decide (stI (N k) (I k) (O k) < 5) = true := h2
          clear h2
          go_wp2_with fail
          refine (possible_any _ _ _ _).mono ?_
          rintro e w2 ⟨rfl, hb⟩
          have HB2 := Lib.hid ((HWB.out _).trans (hb.mono (by have := HW.out.size; simp; omega)))
          clear hb
          rw [h3]
          go_wp2_with fail
          go_roundw
          case rel => exact ⟨k + 1, by omega, by go_num, Lib.hid (fun j hj => by
              by_cases e : j = k
              · rw [e]; exact HE.out
              · exact HA.out j (by omega)), HB2⟩
          case measure => simp [intOf]; omega
        · have HE : Hid (allB n (posB N I O) = false) := allB_not hlt (by simpa using h2)
          have h3 : decide (stI (N k) (I k) (O k) < 5) = false := by simpa [posB] using h2
          clear h2
          go_wp2_with fail
          refine (possible_any _ _ _ _).mono ?_
          rintro e w2 ⟨rfl, hb⟩
          have HB2 := Lib.hid ((HWB.out _).trans (hb.mono (by have := HW.out.size; simp; omega)))
          clear hb
          rw [h3]
          go_wp2_with fail
          go_ret
          exact ⟨retB (by rw [H1.out, HE.out]; rfl), HB2.out⟩
      · have e : k = n := by omega
        subst e
        go_wp2_with fail
        go_ret
        exact ⟨retB (by rw [H1.out, allB_of HA.out]; rfl), HW.out⟩
  · replace h1 := eq_false_of_ne_true h1
    go_enter Tryz.func159, Tryz.ntmps159
    go_wp2_with fail
    refine (sectionsValid_any _ _ (by omega)).mono ?_
    rintro e w' ⟨rfl, rfl⟩
    rw [h1]
    have H1 := Lib.hid h1
    clear h1
    go_wp2_with fail
    go_ret
    exact ⟨retB (by rw [H1.out]; rfl), Below.refl _ _⟩
/-- the events that a section still needs -/
def lefV (n : Int) (i o : Bool) (t : Nat) : Int :=
  if o = true ∧ 0 < t then 5 * t - 1 else if n = 1 ∧ 0 < t then 5 * t - 2 else if i = true then 5 * t + 2 else if n = 0 ∧ i = false ∧ o = false then 5 * t else 5 * t + 1
set_option linter.unusedSimpArgs false in
set_option maxHeartbeats 2000000 in
theorem left_any (b off n c : Nat) (N : Nat → Int) (I O : Nat → Bool) (k t : Nat) (w : World) (ht : t ≤ 1000000) (hk : k < n) (hc : BkC w b off n N I O) :
    Calls Tryz.prog 163 #[.slice (some ⟨b, off, none⟩) n c, .int .i64 k, .int .i64 t] w fun e w' => e = .returned (.int .i64 (lefV (N k) (I k) (O k) t)) ∧ Below w.heap.size w w' := by
  have HW : Hid (∀ a, Below w.heap.size w (w.alloc a)) := fun a => below_all _ _
  obtain ⟨c0, c1, c2⟩ := hc k hk
  clear hc
  revert c0 c1 c2
  generalize N k = x
  generalize I k = i
  generalize O k = o
  intro c0 c1 c2
  cases i <;> cases o
  · rcases Nat.eq_zero_or_pos t with h0 | h0
    · subst h0
      by_cases h1 : x = 1
      · subst h1
        have HV : Hid (lefV 1 false false 0 = (if false = true then 2 else 1)) := rfl
        go_enter Tryz.func163, Tryz.ntmps163
        go_wp2_with fail
        go_ret
        exact ⟨by rw [HV.out]; first | rfl | (simp; done) | (simp; omega), HW.out _⟩
      · have g1 : (x == 1) = false := by simp [h1]
        by_cases h2 : x = 0
        · subst h2
          have HV : Hid (lefV 0 false false 0 = (if false = true then 2 else if false = true then 1 else 0)) := rfl
          clear g1 h1
          go_enter Tryz.func163, Tryz.ntmps163
          go_wp2_with fail
          go_ret
          exact ⟨by rw [HV.out]; first | rfl | (simp; done) | (simp; omega), HW.out _⟩
        · have g2 : (x == 0) = false := by simp [h2]
          have HV : Hid (lefV x false false 0 = (if false = true then 2 else 1)) := by show _ = _; simp [lefV, h1, h2]
          go_enter Tryz.func163, Tryz.ntmps163
          go_wp2_with fail
          go_ret
          exact ⟨by rw [HV.out]; first | rfl | (simp; done) | (simp; omega), HW.out _⟩
    · have g0 : (0 : Int) < (t : Int) := by omega
      by_cases h1 : x = 1
      · subst h1
        have HV : Hid (lefV 1 false false t = 5 * t - (if false = true then 1 else 2)) := by show _ = _; simp [lefV, h0]
        go_enter Tryz.func163, Tryz.ntmps163
        go_wp2_with fail
        go_ret
        exact ⟨by rw [HV.out]; first | rfl | (simp; done) | (simp; omega), HW.out _⟩
      · have g1 : (x == 1) = false := by simp [h1]
        by_cases h2 : x = 0
        · subst h2
          have HV : Hid (lefV 0 false false t = 5 * t + (if false = true then -1 else if false = true then 2 else 0)) := by show _ = _; simp [lefV, h0]; try omega
          clear g1 h1
          go_enter Tryz.func163, Tryz.ntmps163
          go_wp2_with fail
          go_ret
          exact ⟨by rw [HV.out]; first | rfl | (simp; done) | (simp; omega), HW.out _⟩
        · have g2 : (x == 0) = false := by simp [h2]
          have HV : Hid (lefV x false false t = 5 * t + (if false = true then -1 else if false = true then 2 else 1)) := by show _ = _; simp [lefV, h0, h1, h2]; try omega
          go_enter Tryz.func163, Tryz.ntmps163
          go_wp2_with fail
          go_ret
          exact ⟨by rw [HV.out]; first | rfl | (simp; done) | (simp; omega), HW.out _⟩
  · rcases Nat.eq_zero_or_pos t with h0 | h0
    · subst h0
      by_cases h1 : x = 1
      · subst h1
        have HV : Hid (lefV 1 false true 0 = (if false = true then 2 else 1)) := rfl
        go_enter Tryz.func163, Tryz.ntmps163
        go_wp2_with fail
        go_ret
        exact ⟨by rw [HV.out]; first | rfl | (simp; done) | (simp; omega), HW.out _⟩
      · have g1 : (x == 1) = false := by simp [h1]
        by_cases h2 : x = 0
        · subst h2
          have HV : Hid (lefV 0 false true 0 = (if false = true then 2 else if true = true then 1 else 0)) := rfl
          clear g1 h1
          go_enter Tryz.func163, Tryz.ntmps163
          go_wp2_with fail
          go_ret
          exact ⟨by rw [HV.out]; first | rfl | (simp; done) | (simp; omega), HW.out _⟩
        · have g2 : (x == 0) = false := by simp [h2]
          have HV : Hid (lefV x false true 0 = (if false = true then 2 else 1)) := by show _ = _; simp [lefV, h1, h2]
          go_enter Tryz.func163, Tryz.ntmps163
          go_wp2_with fail
          go_ret
          exact ⟨by rw [HV.out]; first | rfl | (simp; done) | (simp; omega), HW.out _⟩
    · have g0 : (0 : Int) < (t : Int) := by omega
      by_cases h1 : x = 1
      · subst h1
        have HV : Hid (lefV 1 false true t = 5 * t - (if true = true then 1 else 2)) := by show _ = _; simp [lefV, h0]
        go_enter Tryz.func163, Tryz.ntmps163
        go_wp2_with fail
        go_ret
        exact ⟨by rw [HV.out]; first | rfl | (simp; done) | (simp; omega), HW.out _⟩
      · have g1 : (x == 1) = false := by simp [h1]
        by_cases h2 : x = 0
        · subst h2
          have HV : Hid (lefV 0 false true t = 5 * t + (if true = true then -1 else if false = true then 2 else 0)) := by show _ = _; simp [lefV, h0]; try omega
          clear g1 h1
          go_enter Tryz.func163, Tryz.ntmps163
          go_wp2_with fail
          go_ret
          exact ⟨by rw [HV.out]; first | rfl | (simp; done) | (simp; omega), HW.out _⟩
        · have g2 : (x == 0) = false := by simp [h2]
          have HV : Hid (lefV x false true t = 5 * t + (if true = true then -1 else if false = true then 2 else 1)) := by show _ = _; simp [lefV, h0, h1, h2]; try omega
          go_enter Tryz.func163, Tryz.ntmps163
          go_wp2_with fail
          go_ret
          exact ⟨by rw [HV.out]; first | rfl | (simp; done) | (simp; omega), HW.out _⟩
  · rcases Nat.eq_zero_or_pos t with h0 | h0
    · subst h0
      by_cases h1 : x = 1
      · subst h1
        have HV : Hid (lefV 1 true false 0 = (if true = true then 2 else 1)) := rfl
        go_enter Tryz.func163, Tryz.ntmps163
        go_wp2_with fail
        go_ret
        exact ⟨by rw [HV.out]; first | rfl | (simp; done) | (simp; omega), HW.out _⟩
      · have g1 : (x == 1) = false := by simp [h1]
        by_cases h2 : x = 0
        · subst h2
          have HV : Hid (lefV 0 true false 0 = (if true = true then 2 else if false = true then 1 else 0)) := rfl
          clear g1 h1
          go_enter Tryz.func163, Tryz.ntmps163
          go_wp2_with fail
          go_ret
          exact ⟨by rw [HV.out]; first | rfl | (simp; done) | (simp; omega), HW.out _⟩
        · have g2 : (x == 0) = false := by simp [h2]
          have HV : Hid (lefV x true false 0 = (if true = true then 2 else 1)) := by show _ = _; simp [lefV, h1, h2]
          go_enter Tryz.func163, Tryz.ntmps163
          go_wp2_with fail
          go_ret
          exact ⟨by rw [HV.out]; first | rfl | (simp; done) | (simp; omega), HW.out _⟩
    · have g0 : (0 : Int) < (t : Int) := by omega
      by_cases h1 : x = 1
      · subst h1
        have HV : Hid (lefV 1 true false t = 5 * t - (if false = true then 1 else 2)) := by show _ = _; simp [lefV, h0]
        go_enter Tryz.func163, Tryz.ntmps163
        go_wp2_with fail
        go_ret
        exact ⟨by rw [HV.out]; first | rfl | (simp; done) | (simp; omega), HW.out _⟩
      · have g1 : (x == 1) = false := by simp [h1]
        by_cases h2 : x = 0
        · subst h2
          have HV : Hid (lefV 0 true false t = 5 * t + (if false = true then -1 else if true = true then 2 else 0)) := by show _ = _; simp [lefV, h0]; try omega
          clear g1 h1
          go_enter Tryz.func163, Tryz.ntmps163
          go_wp2_with fail
          go_ret
          exact ⟨by rw [HV.out]; first | rfl | (simp; done) | (simp; omega), HW.out _⟩
        · have g2 : (x == 0) = false := by simp [h2]
          have HV : Hid (lefV x true false t = 5 * t + (if false = true then -1 else if true = true then 2 else 1)) := by show _ = _; simp [lefV, h0, h1, h2]; try omega
          go_enter Tryz.func163, Tryz.ntmps163
          go_wp2_with fail
          go_ret
          exact ⟨by rw [HV.out]; first | rfl | (simp; done) | (simp; omega), HW.out _⟩
  · rcases Nat.eq_zero_or_pos t with h0 | h0
    · subst h0
      by_cases h1 : x = 1
      · subst h1
        have HV : Hid (lefV 1 true true 0 = (if true = true then 2 else 1)) := rfl
        go_enter Tryz.func163, Tryz.ntmps163
        go_wp2_with fail
        go_ret
        exact ⟨by rw [HV.out]; first | rfl | (simp; done) | (simp; omega), HW.out _⟩
      · have g1 : (x == 1) = false := by simp [h1]
        by_cases h2 : x = 0
        · subst h2
          have HV : Hid (lefV 0 true true 0 = (if true = true then 2 else if true = true then 1 else 0)) := rfl
          clear g1 h1
          go_enter Tryz.func163, Tryz.ntmps163
          go_wp2_with fail
          go_ret
          exact ⟨by rw [HV.out]; first | rfl | (simp; done) | (simp; omega), HW.out _⟩
        · have g2 : (x == 0) = false := by simp [h2]
          have HV : Hid (lefV x true true 0 = (if true = true then 2 else 1)) := by show _ = _; simp [lefV, h1, h2]
          go_enter Tryz.func163, Tryz.ntmps163
          go_wp2_with fail
          go_ret
          exact ⟨by rw [HV.out]; first | rfl | (simp; done) | (simp; omega), HW.out _⟩
    · have g0 : (0 : Int) < (t : Int) := by omega
      by_cases h1 : x = 1
      · subst h1
        have HV : Hid (lefV 1 true true t = 5 * t - (if true = true then 1 else 2)) := by show _ = _; simp [lefV, h0]
        go_enter Tryz.func163, Tryz.ntmps163
        go_wp2_with fail
        go_ret
        exact ⟨by rw [HV.out]; first | rfl | (simp; done) | (simp; omega), HW.out _⟩
      · have g1 : (x == 1) = false := by simp [h1]
        by_cases h2 : x = 0
        · subst h2
          have HV : Hid (lefV 0 true true t = 5 * t + (if true = true then -1 else if true = true then 2 else 0)) := by show _ = _; simp [lefV, h0]; try omega
          clear g1 h1
          go_enter Tryz.func163, Tryz.ntmps163
          go_wp2_with fail
          go_ret
          exact ⟨by rw [HV.out]; first | rfl | (simp; done) | (simp; omega), HW.out _⟩
        · have g2 : (x == 0) = false := by simp [h2]
          have HV : Hid (lefV x true true t = 5 * t + (if true = true then -1 else if true = true then 2 else 1)) := by show _ = _; simp [lefV, h0, h1, h2]; try omega
          go_enter Tryz.func163, Tryz.ntmps163
          go_wp2_with fail
          go_ret
          exact ⟨by rw [HV.out]; first | rfl | (simp; done) | (simp; omega), HW.out _⟩
end Go.Proofs.YtlkdmpfifpkpaaaGreatDoor
namespace Go.Proofs.YtlkdmpfifpkpaaaGreatDoor
open Go.RowKit

/-- the cells of a row of blocks -/
def bkF (N : Nat → Int) (I O : Nat → Bool) (i : Nat) : Value :=
  if i % 3 = 0 then .int .i64 (N (i / 3)) else if i % 3 = 1 then .bool (I (i / 3)) else .bool (O (i / 3))
theorem elBk : Elem Tryz.prog 28 76 (.agg #[.int .i64 0, .bool false, .bool false]) 3 16 := ⟨Tryz.underlying28, by kernel_rfl, rfl, by decide⟩
theorem elBks : Elem Tryz.prog 193 76 (.agg #[.int .i64 0, .bool false, .bool false]) 3 16 := ⟨Tryz.underlying193, by kernel_rfl, rfl, by decide⟩
theorem bkF_one (N : Nat → Int) (I O : Nat → Bool) (i : Nat) : (bkF N I O i).oneCell' = true := by
  unfold bkF
  split
  · rfl
  · split <;> rfl
theorem bk_new {w : World} {b off n : Nat} {N : Nat → Int} {I O : Nat → Bool} (h : BkC w b off n N I O) : ∀ j, j < n * 3 → w.cell? ((⟨b, off, none⟩ : Addr).add j) = some (bkF N I O (0 * 3 + j)) := by
  intro j hj
  obtain ⟨h0, h1, h2⟩ := h (j / 3) (by omega)
  rw [addr_add, Nat.zero_mul, Nat.zero_add]
  unfold bkF
  by_cases e0 : j % 3 = 0
  · rw [if_pos e0, ← h0, show off + j / 3 * 3 = off + j by omega]
  · rw [if_neg e0]
    by_cases e1 : j % 3 = 1
    · rw [if_pos e1, ← h1, show off + j / 3 * 3 + 1 = off + j by omega]
    · rw [if_neg e1, ← h2, show off + j / 3 * 3 + 2 = off + j by omega]
theorem BkC.of_own {w : World} {g cap n : Nat} {N : Nat → Int} {I O : Nat → Bool} {t : TypeId} (h : Own w g cap n 3 t (bkF N I O)) : BkC w g 0 n N I O := fun k hk => by
  have h0 := h.cell (i := k * 3) (by omega)
  have h1 := h.cell (i := k * 3 + 1) (by omega)
  have h2 := h.cell (i := k * 3 + 2) (by omega)
  rw [Nat.zero_add]
  refine ⟨?_, ?_, ?_⟩
  · rw [h0]; unfold bkF; rw [if_pos (by omega), show k * 3 / 3 = k by omega]
  · rw [h1]; unfold bkF; rw [if_neg (by omega), if_pos (by omega), show (k * 3 + 1) / 3 = k by omega]
  · rw [h2]; unfold bkF; rw [if_neg (by omega), if_neg (by omega), show (k * 3 + 2) / 3 = k by omega]
theorem cloneB_any (b off n c : Nat) (N : Nat → Int) (I O : Nat → Bool) (w : World) (hn : n ≤ 1000000000000) (hc : BkC w b off n N I O) :
    Calls Tryz.prog 157 #[.slice (some ⟨b, off, none⟩) n c] w fun e w' => ∃ g c', e = .returned (.slice (some ⟨g, 0, none⟩) n c') ∧ w.heap.size ≤ g ∧ Own w' g c' n 3 76 (bkF N I O) ∧ Below w.heap.size w w' := by
  have hnil := fun w => Lib.run_eql_slice_nil (P := Tryz.prog) w 28 76 (some ⟨b, off, none⟩) n c 0 0 Tryz.underlying28
  have hbb : ∀ a, Below w.heap.size w (w.alloc a) := fun a => (Below.refl _ _).alloc (Nat.le_refl _) _
  have hb : b < w.heap.size ∨ n = 0 := by
    rcases Nat.eq_zero_or_pos n with h | h
    · exact Or.inr h
    · exact Or.inl (World.block_lt_of_cell? w ⟨b, off + 0 * 3, none⟩ (hc 0 h).1)
  have HC : Hid (∀ a, BkC (w.alloc a) b off n N I O) := fun a => by
    rcases hb with hb | hb
    · exact hc.below (hbb a) hb
    · intro k hk; omega
  clear hc hb
  go_enter Tryz.func157, Tryz.ntmps157
  go_wp2_with (at_builtin; refine wpList_app elBk rfl (.tmp 5) (.tmp 6) rfl (own_empty w 3 _ (bkF N I O)) rfl ⟨b, off, none⟩ n c rfl (bk_new (HC.out _)) (fun _ _ => bkF_one _ _ _ _) (by unfold maxLen; omega) (by omega) ?_; intro g' c' wa HA hgr hd)
  have z := hgr.size
  rw [World.size_alloc] at z hd
  have hle : w.heap.size ≤ g' := by omega
  have hbl := (hbb (.cells #[] 76)).trans (below_of_grown hgr (Nat.le_refl _) (by simp))
  rw [Nat.zero_add] at HA
  have HO := Lib.hid HA
  have HBL := Lib.hid hbl
  clear HA hbl hgr hd
  go_wp2_with fail
  go_ret
  exact ⟨g', c', by simp, hle, HO.out, HBL.out⟩
theorem cloneBs_any (b off n c : Nat) (N : Nat → Int) (I O : Nat → Bool) (w : World) (hn : n ≤ 1000000000000) (hc : BkC w b off n N I O) :
    Calls Tryz.prog 164 #[.slice (some ⟨b, off, none⟩) n c] w fun e w' => ∃ g c', e = .returned (.slice (some ⟨g, 0, none⟩) n c') ∧ w.heap.size ≤ g ∧ Own w' g c' n 3 76 (bkF N I O) ∧ Below w.heap.size w w' := by
  have hnil := fun w => Lib.run_eql_slice_nil (P := Tryz.prog) w 193 76 (some ⟨b, off, none⟩) n c 0 0 Tryz.underlying193
  have hbb : ∀ a, Below w.heap.size w (w.alloc a) := fun a => (Below.refl _ _).alloc (Nat.le_refl _) _
  have hb : b < w.heap.size ∨ n = 0 := by
    rcases Nat.eq_zero_or_pos n with h | h
    · exact Or.inr h
    · exact Or.inl (World.block_lt_of_cell? w ⟨b, off + 0 * 3, none⟩ (hc 0 h).1)
  have HC : Hid (∀ a, BkC (w.alloc a) b off n N I O) := fun a => by
    rcases hb with hb | hb
    · exact hc.below (hbb a) hb
    · intro k hk; omega
  clear hc hb
  go_enter Tryz.func164, Tryz.ntmps164
  go_wp2_with (at_builtin; refine wpList_app elBks rfl (.tmp 5) (.tmp 6) rfl (own_empty w 3 _ (bkF N I O)) rfl ⟨b, off, none⟩ n c rfl (bk_new (HC.out _)) (fun _ _ => bkF_one _ _ _ _) (by unfold maxLen; omega) (by omega) ?_; intro g' c' wa HA hgr hd)
  have z := hgr.size
  rw [World.size_alloc] at z hd
  have hle : w.heap.size ≤ g' := by omega
  have hbl := (hbb (.cells #[] 76)).trans (below_of_grown hgr (Nat.le_refl _) (by simp))
  rw [Nat.zero_add] at HA
  have HO := Lib.hid HA
  have HBL := Lib.hid hbl
  clear HA hbl hgr hd
  go_wp2_with fail
  go_ret
  exact ⟨g', c', by simp, hle, HO.out, HBL.out⟩
end Go.Proofs.YtlkdmpfifpkpaaaGreatDoor
namespace Go.Proofs.YtlkdmpfifpkpaaaGreatDoor
open Go.RowKit

theorem ic_new {w : World} {b off n : Nat} {f : Nat → Int} (h : IC w b off n f) : ∀ j, j < n * 1 → w.cell? ((⟨b, off, none⟩ : Addr).add j) = some ((fun i => Value.int .i64 (f i)) (0 * 1 + j)) := by
  intro j hj
  rw [addr_add, h j (by omega)]
  simp

theorem clone_any (b off n c : Nat) (f : Nat → Int) (w : World) (hn : n ≤ 1000000000000) (hc : IC w b off n f) :
    Calls Tryz.prog 158 #[.slice (some ⟨b, off, none⟩) n c] w fun e w' => ∃ g c', e = .returned (.slice (some ⟨g, 0, none⟩) n c') ∧ w.heap.size ≤ g ∧ Own w' g c' n 1 3 (fun i => .int .i64 (f i)) ∧ Below w.heap.size w w' := by
  have hnil := fun w => Lib.run_eql_slice_nil (P := Tryz.prog) w 29 3 (some ⟨b, off, none⟩) n c 0 0 Tryz.underlying29
  have hbb : ∀ a, Below w.heap.size w (w.alloc a) := fun a => (Below.refl _ _).alloc (Nat.le_refl _) _
  have HC := Lib.hid hc
  clear hc
  go_enter Tryz.func158, Tryz.ntmps158
  go_wp2_with (at_builtin; refine wpList_app elInt rfl (.tmp 5) (.tmp 6) rfl (own_empty w 1 _ (fun i => .int .i64 (f i))) rfl ⟨b, off, none⟩ n c rfl (ic_new (HC.out.keep (hbb _))) (fun _ _ => rfl) (by unfold maxLen; omega) (by omega) ?_; intro g' c' wa HA hgr hd)
  have z := hgr.size
  rw [World.size_alloc] at z hd
  have hle : w.heap.size ≤ g' := by omega
  have hbl := (hbb (.cells #[] 3)).trans (below_of_grown hgr (Nat.le_refl _) (by simp))
  rw [Nat.zero_add] at HA
  have HO := Lib.hid HA
  have HBL := Lib.hid hbl
  clear HA hbl hgr hd
  go_wp2_with fail
  go_ret
  exact ⟨g', c', by simp, hle, HO.out, HBL.out⟩
end Go.Proofs.YtlkdmpfifpkpaaaGreatDoor
namespace Go.Proofs.YtlkdmpfifpkpaaaGreatDoor
open Go.RowKit

/-- a line as data: n blocks, m trains -/
structure Ln where
  n : Nat
  N : Nat → Int
  I : Nat → Bool
  O : Nat → Bool
  m : Nat
  T : Nat → Int
/-- the i-th train stands on the line, not ahead of the train before it -/
def trOk (x : Ln) (i : Nat) : Bool := inB (x.T i) 0 (2 * x.n) && (decide (i = 0) || decide (x.T i ≤ x.T (i - 1)))
/-- the k-th section has a train just where its block says so -/
def cnOk (x : Ln) (k : Nat) : Bool := decide (cntA x.T (2 * k + 1) x.m = if x.I k = true then 1 else 0)
def vldL (x : Ln) : Bool := inB x.n 1 5 && (decide (x.m ≤ 5) && (allB x.n (posB x.N x.I x.O) && (allB x.m (trOk x) && allB x.n (cnOk x))))
theorem vldL_true {x : Ln} (h : vldL x = true) : 1 ≤ x.n ∧ x.n ≤ 5 ∧ x.m ≤ 5 ∧ (∀ k, k < x.n → posB x.N x.I x.O k = true) ∧ (∀ i, i < x.m → trOk x i = true) ∧ (∀ k, k < x.n → cnOk x k = true) := by
  simp only [vldL, Bool.and_eq_true, inB_true, decide_eq_true_eq, allB_true] at h
  obtain ⟨⟨h1, h2⟩, h3, h4, h5, h6⟩ := h
  exact ⟨by omega, by omega, h3, h4, h5, h6⟩
theorem vldL_sec {x : Ln} (h : inB x.n 1 5 = false) : vldL x = false := by simp [vldL, h]
theorem vldL_many {x : Ln} (h : ¬ x.m ≤ 5) : vldL x = false := by simp [vldL, h]
theorem vldL_pos {x : Ln} (h : allB x.n (posB x.N x.I x.O) = false) : vldL x = false := by simp [vldL, h]
theorem vldL_tr {x : Ln} {i : Nat} (hi : i < x.m) (h : trOk x i = false) : vldL x = false := by simp [vldL, allB_not hi h]
theorem vldL_cn {x : Ln} {k : Nat} (hk : k < x.n) (h : cnOk x k = false) : vldL x = false := by simp [vldL, allB_not hk h]
theorem vldL_of {x : Ln} (h1 : inB x.n 1 5 = true) (h2 : x.m ≤ 5) (h3 : ∀ k, k < x.n → posB x.N x.I x.O k = true) (h4 : ∀ i, i < x.m → trOk x i = true) (h5 : ∀ k, k < x.n → cnOk x k = true) : vldL x = true := by
  simp [vldL, h1, h2, allB_of h3, allB_of h4, allB_of h5]

/-- the first of m that stands at a place; m where there is none -/
def fstA (f : Nat → Int) (p : Int) : Nat → Nat
  | 0 => 0
  | m + 1 => if fstA f p m < m then fstA f p m else if f m = p then m else m + 1
theorem fstA_le (f : Nat → Int) (p : Int) : ∀ m, fstA f p m ≤ m
  | 0 => Nat.le_refl _
  | m + 1 => by
    have := fstA_le f p m
    simp only [fstA]
    split
    · omega
    · split <;> omega
theorem fstA_at (f : Nat → Int) (p : Int) : ∀ m, fstA f p m < m → f (fstA f p m) = p
  | 0, h => by omega
  | m + 1, h => by
    have ih := fstA_at f p m
    simp only [fstA] at h ⊢
    split
    · rename_i h1; exact ih h1
    · rename_i h1
      rw [if_neg h1] at h
      split
      · rename_i h2; exact h2
      · rename_i h2; rw [if_neg h2] at h; omega
theorem fstA_none (f : Nat → Int) (p : Int) : ∀ m, (∀ j, j < m → f j ≠ p) → fstA f p m = m
  | 0, _ => rfl
  | m + 1, h => by
    have ih := fstA_none f p m (fun j hj => h j (by omega))
    simp only [fstA, ih, Nat.lt_irrefl, if_false, h m (by omega)]
theorem fstA_stop (f : Nat → Int) (p : Int) {k : Nat} (h : ∀ j, j < k → f j ≠ p) (hk : f k = p) : ∀ m, k < m → fstA f p m = k
  | 0, hm => by omega
  | m + 1, hm => by
    rcases Nat.lt_or_ge k m with h1 | h1
    · have ih := fstA_stop f p h hk m h1
      simp only [fstA, ih, h1, if_true]
    · obtain rfl : k = m := by omega
      simp only [fstA, fstA_none f p k h, Nat.lt_irrefl, if_false, hk, if_true]
def eB (l : ByteArray) : Bool := decide (l = chr 101)
def lB (l : ByteArray) : Bool := decide (l = chr 108)
/-- the place that a train leaves -/
def plI (s : Int) (l : ByteArray) : Int := if eB l = true then 2 * s else if lB l = true then 2 * s + 1 else -1
/-- the number of the state behind a move -/
def mvJ (x : Ln) (s : Int) (l : ByteArray) : Nat := bsI (x.N s.toNat) (x.I s.toNat) (x.O s.toNat) l
def mvOk (x : Ln) (s : Int) (l : ByteArray) : Bool := inB s 0 (x.n - 1) && (decide (mvJ x s l < 5) && (!(eB l || lB l) || decide (fstA x.T (plI s l) x.m < x.m)))
def mvTo (x : Ln) (s : Int) (l : ByteArray) : Ln :=
  { n := x.n, N := upd x.N s.toNat (stB (mvJ x s l)).n, I := upd x.I s.toNat (stB (mvJ x s l)).i, O := upd x.O s.toNat (stB (mvJ x s l)).o, m := x.m,
    T := if (eB l || lB l) = true then upd x.T (fstA x.T (plI s l) x.m) (plI s l + 1) else x.T }
def stepO (x : Ln) (s : Int) (l : ByteArray) : Option Ln := if mvOk x s l = true then some (mvTo x s l) else none
def runO (x : Ln) (M : Nat → Int) (L : Nat → ByteArray) : Nat → Option Ln
  | 0 => some x
  | k + 1 => (runO x M L k).bind fun y => stepO y (M k) (L k)
theorem runO_none {x : Ln} {M : Nat → Int} {L : Nat → ByteArray} {k : Nat} (h : runO x M L k = none) : ∀ q, k ≤ q → runO x M L q = none := by
  intro q hq
  induction q with
  | zero => obtain rfl : k = 0 := by omega
            exact h
  | succ q ih =>
    rcases Nat.lt_or_ge k (q + 1) with h1 | h1
    · simp only [runO, ih (by omega), Option.bind_none]
    · obtain rfl : k = q + 1 := by omega
      exact h
theorem stepO_nm {x y : Ln} {s : Int} {l : ByteArray} (h : stepO x s l = some y) : y.n = x.n ∧ y.m = x.m := by
  unfold stepO at h
  split at h
  · cases h; exact ⟨rfl, rfl⟩
  · cases h
theorem runO_nm {x : Ln} {M : Nat → Int} {L : Nat → ByteArray} : ∀ {k : Nat} {y : Ln}, runO x M L k = some y → y.n = x.n ∧ y.m = x.m
  | 0, y, h => by cases h; exact ⟨rfl, rfl⟩
  | k + 1, y, h => by
    simp only [runO] at h
    cases e : runO x M L k with
    | none => rw [e] at h; cases h
    | some z =>
      rw [e] at h
      have h1 := stepO_nm (x := z) (s := M k) (l := L k) h
      have h2 := runO_nm e
      exact ⟨h1.1.trans h2.1, h1.2.trans h2.2⟩
end Go.Proofs.YtlkdmpfifpkpaaaGreatDoor
namespace Go.Proofs.YtlkdmpfifpkpaaaGreatDoor
open Go.RowKit

/-- block r is a railway with rows of its own that hold a line -/
structure RwC (w : World) (r gb cb gt ct : Nat) (x : Ln) : Prop where
  box : Bx w r 195 #[.slice (some ⟨gb, 0, none⟩) x.n cb, .slice (some ⟨gt, 0, none⟩) x.m ct]
  bs : Own w gb cb x.n 3 76 (bkF x.N x.I x.O)
  ts : Own w gt ct x.m 1 3 (fun i => .int .i64 (x.T i))
  d1 : gb ≠ gt
  d2 : r ≠ gb
  d3 : r ≠ gt
theorem RwC.below {w w' : World} {r gb cb gt ct B : Nat} {x : Ln} (h : RwC w r gb cb gt ct x) (hb : Below B w w') (hB : w.heap.size ≤ B) : RwC w' r gb cb gt ct x :=
  ⟨h.box.below hb (Nat.lt_of_lt_of_le h.box.lt hB), h.bs.below hb (Nat.lt_of_lt_of_le h.bs.lt hB), h.ts.below hb (Nat.lt_of_lt_of_le h.ts.lt hB), h.d1, h.d2, h.d3⟩
theorem RwC.bk {w : World} {r gb cb gt ct : Nat} {x : Ln} (h : RwC w r gb cb gt ct x) : BkC w gb 0 x.n x.N x.I x.O := BkC.of_own h.bs
theorem RwC.ic {w : World} {r gb cb gt ct : Nat} {x : Ln} (h : RwC w r gb cb gt ct x) : IC w gt 0 x.m x.T := IC.of_own h.ts

theorem RwC.tr {w : World} {r gb cb gt ct : Nat} {x : Ln} (h : RwC w r gb cb gt ct x) {j : Nat} (hj : j < x.m) : w.cell? ⟨gt, j, none⟩ = some (.int .i64 (x.T j)) := h.ts.cell1 hj
theorem RwC.bl {w : World} {r gb cb gt ct : Nat} {x : Ln} (h : RwC w r gb cb gt ct x) {k : Nat} (hk : k < x.n) : w.cell? ⟨gb, k * 3, none⟩ = some (.int .i64 (x.N k)) ∧ w.cell? ⟨gb, k * 3 + 1, none⟩ = some (.bool (x.I k)) ∧ w.cell? ⟨gb, k * 3 + 2, none⟩ = some (.bool (x.O k)) := by
  have := h.bk.at k hk
  simpa using this

/-- what slices.Index gives -/
def idxI (f : Nat → Int) (p : Int) (n : Nat) : Int := if fstA f p n < n then fstA f p n else -1
theorem index_any (b off n c : Nat) (f : Nat → Int) (p : Int) (w : World) (hn : n ≤ 1000000000000) (hc : IC w b off n f) :
    Calls Tryz.prog 162 #[.slice (some ⟨b, off, none⟩) n c, .int .i64 p] w fun e w' => e = .returned (.int .i64 (idxI f p n)) ∧ w = w' := by
  go_enter Tryz.func162, Tryz.ntmps162
  go_wp2_with fail
  go_loop [5, 8] (fun _ i => ∃ k : Nat, k ≤ n ∧ i = .int .i64 k ∧ Hid (∀ j, j < k → f j ≠ p)) (fun _ i => n - (intOf i).toNat)
  case atStart => exact ⟨0, Nat.zero_le _, rfl, Lib.hid (fun j hj => by omega)⟩
  case round =>
    obtain ⟨k, hk, rfl, HA⟩ := hrel
    by_cases hlt : k < n
    · have hck := hc.at k hlt
      by_cases h1 : f k = p
      · have HE : Hid (idxI f p n = k) := by show _ = _; unfold idxI; rw [fstA_stop f p HA.out h1 n hlt, if_pos hlt]
        have h2 : (p == f k) = true := by simp [h1]
        clear h1
        go_wp2_with fail
        go_ret
        exact ⟨retI HE.out.symm, rfl⟩
      · have HE : Hid (∀ j, j < k + 1 → f j ≠ p) := fun j hj => by
          by_cases e : j = k
          · rw [e]; exact h1
          · exact HA.out j (by omega)
        have h2 : (p == f k) = false := by simp; exact fun e => h1 e.symm
        clear h1
        go_wp2_with fail
        go_round
        case rel => exact ⟨k + 1, by omega, by go_num, HE⟩
        case measure => simp [intOf]; omega
    · obtain rfl : k = n := by omega
      have HE : Hid (idxI f p k = -1) := by show _ = _; unfold idxI; rw [fstA_none f p k HA.out, if_neg (Nat.lt_irrefl _)]
      go_wp2_with fail
      go_ret
      exact ⟨retI HE.out.symm, rfl⟩

/-- how many of the first m stand at a place or before it -/
def leA (f : Nat → Int) (p : Int) : Nat → Nat
  | 0 => 0
  | m + 1 => leA f p m + if f m ≤ p then 1 else 0
theorem leA_le (f : Nat → Int) (p : Int) : ∀ m, leA f p m ≤ m
  | 0 => Nat.le_refl _
  | m + 1 => by
    have := leA_le f p m
    simp only [leA]
    split <;> omega
/-- the moves that the first k sections still need -/
def lefS (x : Ln) : Nat → Int
  | 0 => 0
  | k + 1 => lefS x k + lefV (x.N k) (x.I k) (x.O k) (leA x.T (2 * k) x.m)
theorem lefV_bd (n : Int) (i o : Bool) (t : Nat) : 0 ≤ lefV n i o t ∧ lefV n i o t ≤ 5 * t + 2 := by
  unfold lefV
  split
  · omega
  · split
    · omega
    · split
      · omega
      · split <;> omega
theorem lefS_bd (x : Ln) : ∀ k, 0 ≤ lefS x k ∧ lefS x k ≤ k * (5 * x.m + 2)
  | 0 => by simp [lefS]
  | k + 1 => by
    have h1 := lefS_bd x k
    have h2 := lefV_bd (x.N k) (x.I k) (x.O k) (leA x.T (2 * k) x.m)
    have h3 := leA_le x.T (2 * k) x.m
    have e : ((k + 1 : Nat) : Int) * (5 * x.m + 2) = k * (5 * x.m + 2) + (5 * x.m + 2) := by rw [Int.natCast_add, Int.add_mul]; simp
    simp only [lefS]
    rw [e]
    omega
theorem lefS_bd2 {x : Ln} (hm : x.m ≤ 1000) {k : Nat} (hk : k ≤ 1000) : 0 ≤ lefS x k ∧ lefS x k ≤ 10000000 := by
  have h1 := lefS_bd x k
  have h2 : (k : Int) * (5 * x.m + 2) ≤ 1000 * 5002 := Int.mul_le_mul (by omega) (by omega) (by omega) (by omega)
  omega

set_option linter.unusedSimpArgs false in
set_option maxHeartbeats 1000000 in
theorem leftMoves_any (r gb cb gt ct : Nat) (x : Ln) (w : World) (hn : x.n ≤ 1000) (hm : x.m ≤ 1000) (h : RwC w r gb cb gt ct x) :
    Calls Tryz.prog 144 #[.pointer (some ⟨r, 0, none⟩)] w fun e w' => e = .returned (.int .i64 (lefS x x.n)) ∧ Below w.heap.size w w' := by
  have H := Lib.hid h
  have hrc := h.box.cell
  clear h
  go_enter Tryz.func144, Tryz.ntmps144
  go_wp2_with fail
  clear hrc
  go_loopw [3, 4, 5, 7, 13] (fun s _ _ _ i wr => ∃ k : Nat, k ≤ x.n ∧ i = .int .i64 k ∧ s = .int .i64 (lefS x k) ∧ Hid (Below w.heap.size w wr)) (fun _ _ _ _ i _ => x.n - (intOf i).toNat)
  case atStart => exact ⟨0, Nat.zero_le _, rfl, rfl, Lib.hid (Below.refl _ _)⟩
  case round =>
    obtain ⟨k, hk, rfl, rfl, HW⟩ := hrel
    have HR := Lib.hid (H.out.below HW.out (Nat.le_refl _))
    have hrc := HR.out.box.cell
    by_cases hlt : k < x.n
    · go_wp2_with fail
      go_loop [5, 7, 21] (fun t _ i => ∃ j : Nat, j ≤ x.m ∧ i = .int .i64 j ∧ t = .int .i64 (leA x.T (2 * k) j)) (fun _ _ i => x.m - (intOf i).toNat)
      case atStart => exact ⟨0, Nat.zero_le _, rfl, rfl⟩
      case round =>
        obtain ⟨j, hj, rfl, rfl⟩ := hrel
        have hle := leA_le x.T (2 * k) j
        by_cases hjt : j < x.m
        · have hcj := HR.out.tr hjt
          by_cases h1 : x.T j ≤ 2 * k
          · have HE : Hid (leA x.T (2 * k) (j + 1) = leA x.T (2 * k) j + 1) := by show _ = _; simp [leA, h1]
            go_wp2_with fail
            go_round
            case rel => exact ⟨j + 1, by omega, by go_num, by rw [HE.out]; go_num⟩
            case measure => simp [intOf]; omega
          · have HE : Hid (leA x.T (2 * k) (j + 1) = leA x.T (2 * k) j) := by show _ = _; simp [leA, h1]
            go_wp2_with fail
            go_round
            case rel => exact ⟨j + 1, by omega, by go_num, by rw [HE.out]⟩
            case measure => simp [intOf]; omega
        · obtain rfl : j = x.m := by omega
          have hb1 := lefS_bd2 hm (k := k) (by omega)
          have hb2 := lefV_bd (x.N k) (x.I k) (x.O k) (leA x.T (2 * k) x.m)
          have HE : Hid (lefS x (k + 1) = lefS x k + lefV (x.N k) (x.I k) (x.O k) (leA x.T (2 * k) x.m)) := rfl
          go_wp2_with fail
          refine (left_any gb 0 x.n cb x.N x.I x.O k (leA x.T (2 * k) x.m) _ (by omega) hlt HR.out.bk).mono ?_
          rintro e w2 ⟨rfl, hb⟩
          have HB := Lib.hid (HW.out.trans (hb.mono HW.out.size))
          clear hb
          go_wp2_with fail
          go_roundw
          case rel => exact ⟨k + 1, by omega, by go_num, by rw [HE.out], HB⟩
          case measure => simp [intOf]; omega
    · obtain e : k = x.n := by omega
      subst e
      go_wp2_with fail
      go_ret
      exact ⟨rfl, HW.out⟩
end Go.Proofs.YtlkdmpfifpkpaaaGreatDoor
namespace Go.Proofs.YtlkdmpfifpkpaaaGreatDoor
open Go.RowKit

/-- a railway in new memory -/
def RwN (B : Nat) (w : World) (s : Value) (x : Ln) : Prop :=
  ∃ r gb cb gt ct, s = .pointer (some ⟨r, 0, none⟩) ∧ RwC w r gb cb gt ct x ∧ B ≤ r ∧ B ≤ gb ∧ B ≤ gt
theorem RwN.below {B D : Nat} {w w' : World} {s : Value} {x : Ln} (h : RwN B w s x) (hb : Below D w w') (hD : w.heap.size ≤ D) : RwN B w' s x := by
  obtain ⟨r, gb, cb, gt, ct, h1, h2, h3⟩ := h
  exact ⟨r, gb, cb, gt, ct, h1, h2.below hb hD, h3⟩
/-- what railwayOf hands back -/
def RwO (x : Ln) (w : World) (e : Ending) (w' : World) : Prop :=
  Below w.heap.size w w' ∧ ((vldL x = true ∧ ∃ s, e = .returned (.tuple #[s, .bool true]) ∧ RwN w.heap.size w' s x) ∨ (vldL x = false ∧ e = .returned (.tuple #[.pointer none, .bool false])))
theorem trOk_of {x : Ln} {i : Nat} (h1 : ¬ x.T i < 0) (h2 : ¬ 2 * (x.n : Int) < x.T i) (h3 : i = 0 ∨ ¬ x.T (i - 1) < x.T i) : trOk x i = true := by
  unfold trOk
  rw [inB_true.2 (by omega)]
  rcases h3 with h | h
  · simp [h]
  · simp [show x.T i ≤ x.T (i - 1) by omega]
theorem trOk_out {x : Ln} {i : Nat} (h1 : ¬ (0 ≤ x.T i ∧ x.T i ≤ 2 * (x.n : Int))) : trOk x i = false := by
  unfold trOk
  rw [inB_false.2 h1, Bool.false_and]
theorem trOk_up {x : Ln} {i : Nat} (h0 : 0 < i) (h1 : x.T (i - 1) < x.T i) : trOk x i = false := by
  unfold trOk
  rw [decide_eq_false (show ¬ i = 0 by omega), decide_eq_false (show ¬ x.T i ≤ x.T (i - 1) by omega)]
  simp
theorem all_next {p : Nat → Bool} {k : Nat} (h : ∀ j, j < k → p j = true) (hk : p k = true) : ∀ j, j < k + 1 → p j = true := fun j hj => by
  by_cases e : j = k
  · rw [e]; exact hk
  · exact h j (by omega)
/-- between two clones of railwayOf: the box and the first row -/
theorem rw_two {w1 w2 : World} {g1 c1 g2 n1 s1 : Nat} {t1 : TypeId} {f1 : Nat → Value} (h1 : Own w1 g1 c1 n1 s1 t1 f1) (hb : Below w1.heap.size w1 w2) (hg : w1.heap.size ≤ g2) : Own w2 g1 c1 n1 s1 t1 f1 ∧ g1 ≠ g2 ∧ g1 < w2.heap.size :=
  ⟨h1.below hb h1.lt, by have := h1.lt; omega, by have := h1.lt; have := hb.size; omega⟩

set_option linter.unusedSimpArgs false in
set_option maxHeartbeats 2000000 in
theorem railwayOf_any (bb bo cb tb tu ct : Nat) (x : Ln) (w : World) (hn : x.n ≤ 1000000000000) (hm : x.m ≤ 1000000000000) (hbk : BkC w bb bo x.n x.N x.I x.O) (hic : IC w tb tu x.m x.T) :
    Calls Tryz.prog 141 #[.agg #[.slice (some ⟨bb, bo, none⟩) x.n cb, .slice (some ⟨tb, tu, none⟩) x.m ct]] w (RwO x w) := by
  have HBk := Lib.hid hbk
  have HIc := Lib.hid hic
  have HBB : Hid (∀ a, Below w.heap.size w (w.alloc a)) := fun a => below_all _ _
  have HKB : Hid (∀ w', Below w.heap.size w w' → BkC w' bb bo x.n x.N x.I x.O) := fun w' hb => by
    intro k hk
    obtain ⟨h0, h1, h2⟩ := hbk k hk
    have hlt : bb < w.heap.size := World.block_lt_of_cell? w ⟨bb, bo + k * 3, none⟩ h0
    exact ⟨by rw [hb.cell (p := ⟨bb, bo + k * 3, none⟩) hlt]; exact h0, by rw [hb.cell (p := ⟨bb, bo + k * 3 + 1, none⟩) hlt]; exact h1, by rw [hb.cell (p := ⟨bb, bo + k * 3 + 2, none⟩) hlt]; exact h2⟩
  have HKT : Hid (∀ w', Below w.heap.size w w' → IC w' tb tu x.m x.T) := fun w' hb => hic.keep hb
  clear hbk hic
  go_enter Tryz.func141, Tryz.ntmps141
  go_wp2_with fail
  have hxb : ∀ o, (w.alloc (.cells #[.slice (some ⟨bb, bo, none⟩) x.n cb, .slice (some ⟨tb, tu, none⟩) x.m ct] 31)).cell? ⟨w.heap.size, o, none⟩ = (#[.slice (some ⟨bb, bo, none⟩) x.n cb, .slice (some ⟨tb, tu, none⟩) x.m ct] : Array Value)[o]? := box_new _ _ _
  generalize hW0 : w.alloc (.cells #[.slice (some ⟨bb, bo, none⟩) x.n cb, .slice (some ⟨tb, tu, none⟩) x.m ct] 31) = W0 at *
  have HB0 : Hid (Below w.heap.size w W0) := by rw [← hW0]; exact HBB.out _
  have hz0 : W0.heap.size = w.heap.size + 1 := by rw [← hW0]; simp
  clear hW0
  refine wp_region_held_drew (S := (fun w' => w'.cell? ⟨w.heap.size, 0, none⟩ = some (.slice (some ⟨bb, bo, none⟩) x.n cb) ∧ w'.cell? ⟨w.heap.size, 1, none⟩ = some (.slice (some ⟨tb, tu, none⟩) x.m ct))) (by kernel_rfl) ?_ (fun hHeld => ?_)
  · try dsimp only
    go_keep
  refine wpAnyH_take (i := 0) (oi := ?_) (v := ?_) ?_ (by kernel_rfl) (by kernel_rfl) (by kernel_rfl) ?_ ?_ (by assumption) ?_
  rotate_left 2
  · simp only [List.getElem?_toArray, List.getElem?_cons_succ, List.getElem?_cons_zero]; rfl
  · exact fun _ _ _ h => h
  · first
      | (refine Or.inr ⟨?_, ?_⟩ <;> rfl)
      | (refine Or.inl ⟨?_, ?_⟩; · rfl
         intro w hSw; (try dsimp only at hSw); go_simp; (try with_reducible rfl); done)
  try simp only [Act.put, List.setIfInBounds_toArray, List.set_cons_zero, List.set_cons_succ]
  refine wpAnyH_take (i := 1) (oi := ?_) (v := ?_) ?_ (by kernel_rfl) (by kernel_rfl) (by kernel_rfl) ?_ ?_ (by assumption) ?_
  rotate_left 2
  · simp only [List.getElem?_toArray, List.getElem?_cons_succ, List.getElem?_cons_zero]; rfl
  · exact fun _ _ _ h => h
  · first
      | (refine Or.inr ⟨?_, ?_⟩ <;> rfl)
      | (refine Or.inl ⟨?_, ?_⟩; · rfl
         intro w hSw; (try dsimp only at hSw); go_simp; (try with_reducible rfl); done)
  try simp only [Act.put, List.setIfInBounds_toArray, List.set_cons_zero, List.set_cons_succ]
  refine wpAnyH_take (i := 3) (oi := ?_) (v := ?_) ?_ (by kernel_rfl) (by kernel_rfl) (by kernel_rfl) ?_ ?_ (by assumption) ?_
  rotate_left 2
  · simp only [List.getElem?_toArray, List.getElem?_cons_succ, List.getElem?_cons_zero]; rfl
  · exact fun _ _ _ h => h
  · first
      | (refine Or.inr ⟨?_, ?_⟩ <;> rfl)
      | (refine Or.inl ⟨?_, ?_⟩; · rfl
         intro w hSw; (try dsimp only at hSw); go_simp; (try with_reducible rfl); done)
  try simp only [Act.put, List.setIfInBounds_toArray, List.set_cons_zero, List.set_cons_succ]
  refine wpAnyH_take (i := 4) (oi := ?_) (v := ?_) ?_ (by kernel_rfl) (by kernel_rfl) (by kernel_rfl) ?_ ?_ (by assumption) ?_
  rotate_left 2
  · simp only [List.getElem?_toArray, List.getElem?_cons_succ, List.getElem?_cons_zero]; rfl
  · exact fun _ _ _ h => h
  · first
      | (refine Or.inr ⟨?_, ?_⟩ <;> rfl)
      | (refine Or.inl ⟨?_, ?_⟩; · rfl
         intro w hSw; (try dsimp only at hSw); go_simp; (try with_reducible rfl); done)
  try simp only [Act.put, List.setIfInBounds_toArray, List.set_cons_zero, List.set_cons_succ]
  refine wpAnyH_ready (rs := [2]) (by kernel_rfl) (by simp) ?_
  refine AllReadyH.cons (o := ?_) ?_ (fun K hK => ?_) AllReadyH.nil
  rotate_left 1
  · simp only [List.getElem?_toArray, List.getElem?_cons_succ, List.getElem?_cons_zero]; rfl
  go_simp
  go_at_call 157
  go_must (refine Calls.mono (cloneB_any bb bo x.n cb x.N x.I x.O _ hn (HKB.out _ HB0.out.drew)) ?_)
  rintro e w1 ⟨g1, c1, rfl, hg1, ho1, hb1⟩
  have HO1 := Lib.hid ho1
  have HB1 := Lib.hid (HB0.out.drew.trans (hb1.mono (by simp; omega)))
  have hxb1 := box_keep (w := W0.drew) hxb hb1 (by simp; omega)
  have hz1 : W0.heap.size ≤ w1.heap.size := hb1.size
  have hg1' : w.heap.size + 1 ≤ g1 := by simp at hg1; omega
  clear ho1 hb1 hg1 hxb
  refine hK.out _ _ ?_ (fun hHeld => ?_)
  · try dsimp only
    go_keep
  clear hK K
  try simp only [Act.put, List.setIfInBounds_toArray, List.set_cons_zero, List.set_cons_succ]
  refine wpAnyH_ready (rs := [5]) (by kernel_rfl) (by simp) ?_
  refine AllReadyH.cons (o := ?_) ?_ (fun K hK => ?_) AllReadyH.nil
  rotate_left 1
  · simp only [List.getElem?_toArray, List.getElem?_cons_succ, List.getElem?_cons_zero]; rfl
  go_simp
  go_at_call 158
  go_must (refine Calls.mono (clone_any tb tu x.m ct x.T _ hm (HKT.out _ HB1.out)) ?_)
  rintro e w2 ⟨g2, c2, rfl, hg2, ho2, hb2⟩
  have HO2 := Lib.hid ho2
  have HB2 := Lib.hid (HB1.out.trans (hb2.mono (by omega)))
  have HT := Lib.hid (rw_two HO1.out hb2 hg2)
  have hxb2 := box_keep (w := w1) hxb1 hb2 (by omega)
  have hz2 : w1.heap.size ≤ w2.heap.size := hb2.size
  have hg2' : w.heap.size + 1 ≤ g2 := by omega
  clear ho2 hb2 hg2 hxb1
  refine hK.out _ _ ?_ (fun hHeld => ?_)
  · try dsimp only
    go_keep
  clear hK K
  try simp only [Act.put, List.setIfInBounds_toArray, List.set_cons_zero, List.set_cons_succ]
  refine wpAnyH_take (i := 6) (oi := ?_) (v := ?_) ?_ (by kernel_rfl) (by kernel_rfl) (by kernel_rfl) ?_ ?_ (by assumption) ?_
  rotate_left 2
  · simp only [List.getElem?_toArray, List.getElem?_cons_succ, List.getElem?_cons_zero]; rfl
  · exact fun _ _ _ h => h
  · first
      | (refine Or.inr ⟨?_, ?_⟩ <;> rfl)
      | (refine Or.inl ⟨?_, ?_⟩; · rfl
         intro w hSw; (try dsimp only at hSw); go_simp; (try with_reducible rfl); done)
  try simp only [Act.put, List.setIfInBounds_toArray, List.set_cons_zero, List.set_cons_succ]
  refine wpAnyH_ready (rs := [7]) (by kernel_rfl) (by simp) ?_
  refine AllReadyH.cons (o := ?_) ?_ (fun K hK => ?_) AllReadyH.nil
  rotate_left 1
  · simp only [List.getElem?_toArray, List.getElem?_cons_succ, List.getElem?_cons_zero]; rfl
  go_simp
  skip
  refine hK.out _ _ ?_ (fun hHeld => ?_)
  · try dsimp only
    go_keep
  clear hK K
  try simp only [Act.put, List.setIfInBounds_toArray, List.set_cons_zero, List.set_cons_succ]
  refine wpAnyH_take (i := 8) (oi := ?_) (v := ?_) ?_ (by kernel_rfl) (by kernel_rfl) (by kernel_rfl) ?_ ?_ (by assumption) ?_
  rotate_left 2
  · simp only [List.getElem?_toArray, List.getElem?_cons_succ, List.getElem?_cons_zero]; rfl
  · exact fun _ _ _ h => h
  · first
      | (refine Or.inr ⟨?_, ?_⟩ <;> rfl)
      | (refine Or.inl ⟨?_, ?_⟩; · rfl
         intro w hSw; (try dsimp only at hSw); go_simp; (try with_reducible rfl); done)
  try simp only [Act.put, List.setIfInBounds_toArray, List.set_cons_zero, List.set_cons_succ]
  refine wpAnyH_done (by kernel_rfl) ?_ _
  have HM : Hid (RwC (w2.alloc (.cells #[.slice (some ⟨g1, 0, none⟩) x.n c1, .slice (some ⟨g2, 0, none⟩) x.m c2] 195)) w2.heap.size g1 c1 g2 c2 x) := by
    obtain ⟨a1, a2, a3⟩ := HT.out
    exact ⟨Bx.new _ _ _, a1.alloc _, HO2.out.alloc _, a2, by omega, by have := HO2.out.lt; omega⟩
  have HBM : Hid (∀ a, Below w.heap.size w (w2.alloc a)) := fun a => HB2.out.alloc HB2.out.size _
  have HBZ := Lib.hid (HBM.out (.cells #[.slice (some ⟨g1, 0, none⟩) x.n c1, .slice (some ⟨g2, 0, none⟩) x.m c2] 195))
  have HRN : Hid (w.heap.size ≤ w2.heap.size ∧ w.heap.size ≤ g1 ∧ w.heap.size ≤ g2) := ⟨by omega, by omega, by omega⟩
  clear HT HO1 HO2 HBM hxb2
  generalize hW2 : w2.alloc (.cells #[.slice (some ⟨g1, 0, none⟩) x.n c1, .slice (some ⟨g2, 0, none⟩) x.m c2] 195) = W2 at *
  clear hW2
  generalize hr : w2.heap.size = r at *
  clear hr
  have hrc := HM.out.box.cell
  have HPK : Hid (Calls Tryz.prog 159 #[.slice (some ⟨g1, 0, none⟩) x.n c1] W2 fun e w' => e = .returned (.bool (inB x.n 1 5 && allB x.n (posB x.N x.I x.O))) ∧ Below W2.heap.size W2 w') := blkPossible_any g1 0 x.n c1 x.N x.I x.O _ hn HM.out.bk HM.out.bs.lt
  cases hp : (inB x.n 1 5 && allB x.n (posB x.N x.I x.O))
  · have HV : Hid (vldL x = false) := by
      show _ = _
      rcases Bool.and_eq_false_iff.1 hp with h | h
      · exact vldL_sec h
      · exact vldL_pos h
    have HP := Lib.hid hp
    clear hp
    go_wp2_with fail
    refine HPK.out.mono ?_
    rintro e w3 ⟨rfl, hb3⟩
    have HB3 := Lib.hid (HBZ.out.trans (hb3.mono HBZ.out.size))
    clear hb3
    rw [HP.out]
    go_wp2_with fail
    go_ret2
    exact ⟨HB3.out, .inr ⟨HV.out, rfl⟩⟩
  have hp2 := Bool.and_eq_true_iff.1 hp
  obtain ⟨hs, hpos⟩ := hp2
  have HS := Lib.hid hs
  have HPOS := Lib.hid (allB_true.1 hpos)
  have HP := Lib.hid hp
  have hsn := (inB_true.1 hs)
  clear hp hs hpos
  go_wp2_with fail
  refine HPK.out.mono ?_
  rintro e w3 ⟨rfl, hb3⟩
  have HB3 := Lib.hid (HBZ.out.trans (hb3.mono HBZ.out.size))
  have HM3 := Lib.hid (HM.out.below hb3 (Nat.le_refl _))
  clear hb3 hrc HPK HM
  have hrc := HM3.out.box.cell
  rw [HP.out]
  by_cases h5 : ¬ x.m ≤ 5
  · have HV := Lib.hid (vldL_many h5)
    have g5 : (5 : Int) < (x.m : Int) := by omega
    clear h5
    go_wp2_with fail
    go_ret2
    exact ⟨HB3.out, .inr ⟨HV.out, rfl⟩⟩
  replace h5 := Decidable.not_not.1 h5
  have g5 : ¬ (5 : Int) < (x.m : Int) := by omega
  go_wp2_with fail
  go_loop [5, 6, 36] (fun _ _ s => ∃ i : Nat, i ≤ x.m ∧ s = .int .i64 i ∧ Hid (∀ j, j < i → trOk x j = true)) (fun _ _ s => x.m - (intOf s).toNat)
  case atStart => exact ⟨0, Nat.zero_le _, rfl, Lib.hid (fun j hj => by omega)⟩
  case round =>
    obtain ⟨i, hi, rfl, HA⟩ := hrel
    by_cases hlt : i < x.m
    · have hci := HM3.out.tr hlt
      by_cases a1 : x.T i < 0
      · have HV := Lib.hid (vldL_tr hlt (trOk_out (by omega)))
        go_wp2_with fail
        go_ret2
        exact ⟨HB3.out, .inr ⟨HV.out, rfl⟩⟩
      by_cases a2 : 2 * (x.n : Int) < x.T i
      · have HV := Lib.hid (vldL_tr hlt (trOk_out (by omega)))
        go_wp2_with fail
        go_ret2
        exact ⟨HB3.out, .inr ⟨HV.out, rfl⟩⟩
      rcases Nat.eq_zero_or_pos i with h0 | h0
      · subst h0
        have HN := Lib.hid (all_next HA.out (trOk_of a1 a2 (.inl rfl)))
        go_wp2_with fail
        go_round
        case rel => exact ⟨1, by omega, by go_num, HN⟩
        case measure => simp [intOf]; omega
      have h0' : (0 : Int) < (i : Int) := by omega
      have hcp := HM3.out.tr (j := i - 1) (by omega)
      have hkw : IntKind.i64.wrap ((i : Int) - 1) = ((i - 1 : Nat) : Int) := by rw [show ((i : Int) - 1) = ((i - 1 : Nat) : Int) from by omega]; exact IntWalk.i64_in _ (by omega)
      by_cases a3 : x.T (i - 1) < x.T i
      · have HV := Lib.hid (vldL_tr hlt (trOk_up h0 a3))
        go_wp2_with fail
        go_ret2
        exact ⟨HB3.out, .inr ⟨HV.out, rfl⟩⟩
      · have HN := Lib.hid (all_next HA.out (trOk_of a1 a2 (.inr a3)))
        go_wp2_with fail
        go_round
        case rel => exact ⟨i + 1, by omega, by go_num, HN⟩
        case measure => simp [intOf]; omega
    · obtain e : i = x.m := by omega
      subst e
      go_wp2_with fail
      go_loop [7, 8, 73] (fun _ _ s => ∃ k : Nat, k ≤ x.n ∧ s = .int .i64 k ∧ Hid (∀ j, j < k → cnOk x j = true)) (fun _ _ s => x.n - (intOf s).toNat)
      case atStart => exact ⟨0, Nat.zero_le _, rfl, Lib.hid (fun j hj => by omega)⟩
      case round =>
        obtain ⟨k, hk, rfl, HC⟩ := hrel
        by_cases hkt : k < x.n
        · obtain ⟨_, c1', _⟩ := HM3.out.bl hkt
          have HCT : Hid (∀ p : Int, Calls Tryz.prog 160 #[.pointer (some ⟨r, 0, none⟩), .int .i64 p] w3 fun e w' => e = .returned (.int .i64 (cntA x.T p x.m)) ∧ w3 = w') := fun p => count_any r _ g2 0 x.m c2 x.T p w3 (by omega) HM3.out.box HM3.out.ic
          cases hI : x.I k
          · rw [hI] at c1'
            by_cases hc : cntA x.T (2 * k + 1) x.m = 0
            · have HN := Lib.hid (all_next HC.out (show cnOk x k = true by simp [cnOk, hI, hc]))
              have HE := Lib.hid hc
              clear hc hI
              go_wp2_with fail
              refine (HCT.out _).mono ?_
              rintro e w' ⟨rfl, rfl⟩
              rw [HE.out]
              go_wp2_with fail
              go_round
              case rel => exact ⟨k + 1, by omega, by go_num, HN⟩
              case measure => simp [intOf]; omega
            · have HV := Lib.hid (vldL_cn hkt (show cnOk x k = false by simp [cnOk, hI, hc]))
              have hne : ((cntA x.T (2 * k + 1) x.m : Int) != 0) = true := by simp; exact hc
              clear hc hI
              go_wp2_with fail
              refine (HCT.out _).mono ?_
              rintro e w' ⟨rfl, rfl⟩
              go_wp2_with fail
              go_ret2
              exact ⟨HB3.out, .inr ⟨HV.out, rfl⟩⟩
          · rw [hI] at c1'
            by_cases hc : cntA x.T (2 * k + 1) x.m = 1
            · have HN := Lib.hid (all_next HC.out (show cnOk x k = true by simp [cnOk, hI, hc]))
              have HE := Lib.hid hc
              clear hc hI
              go_wp2_with fail
              refine (HCT.out _).mono ?_
              rintro e w' ⟨rfl, rfl⟩
              rw [HE.out]
              go_wp2_with fail
              go_round
              case rel => exact ⟨k + 1, by omega, by go_num, HN⟩
              case measure => simp [intOf]; omega
            · have HV := Lib.hid (vldL_cn hkt (show cnOk x k = false by simp [cnOk, hI, hc]))
              have hne : ((cntA x.T (2 * k + 1) x.m : Int) != 1) = true := by simp; omega
              clear hc hI
              go_wp2_with fail
              refine (HCT.out _).mono ?_
              rintro e w' ⟨rfl, rfl⟩
              go_wp2_with fail
              go_ret2
              exact ⟨HB3.out, .inr ⟨HV.out, rfl⟩⟩
        · obtain e : k = x.n := by omega
          subst e
          have HV := Lib.hid (vldL_of HS.out h5 HPOS.out HA.out HC.out)
          go_wp2_with fail
          go_ret2
          exact ⟨HB3.out, .inl ⟨HV.out, _, rfl, r, g1, c1, g2, c2, rfl, HM3.out, HRN.out⟩⟩
end Go.Proofs.YtlkdmpfifpkpaaaGreatDoor
namespace Go.Proofs.YtlkdmpfifpkpaaaGreatDoor
open Go.RowKit

/-- a line in new memory -/
def LnO (B : Nat) (w : World) (v : Value) (x : Ln) : Prop :=
  ∃ g1 c1 g2 c2, v = .agg #[.slice (some ⟨g1, 0, none⟩) x.n c1, .slice (some ⟨g2, 0, none⟩) x.m c2] ∧ Own w g1 c1 x.n 3 76 (bkF x.N x.I x.O) ∧ Own w g2 c2 x.m 1 3 (fun i => .int .i64 (x.T i)) ∧ g1 ≠ g2 ∧ B ≤ g1 ∧ B ≤ g2
theorem LnO.below {B D : Nat} {w w' : World} {v : Value} {x : Ln} (h : LnO B w v x) (hb : Below D w w') (hD : w.heap.size ≤ D) : LnO B w' v x := by
  obtain ⟨g1, c1, g2, c2, e, h1, h2, h3⟩ := h
  exact ⟨g1, c1, g2, c2, e, h1.below hb (Nat.lt_of_lt_of_le h1.lt hD), h2.below hb (Nat.lt_of_lt_of_le h2.lt hD), h3⟩
theorem LnO.mono {B D : Nat} {w : World} {v : Value} {x : Ln} (h : LnO B w v x) (hD : D ≤ B) : LnO D w v x := by
  obtain ⟨g1, c1, g2, c2, e, h1, h2, h3, h4, h5⟩ := h
  exact ⟨g1, c1, g2, c2, e, h1, h2, h3, by omega, by omega⟩
set_option linter.unusedSimpArgs false in
set_option maxHeartbeats 1000000 in
theorem line_any (r gb cb gt ct : Nat) (x : Ln) (w : World) (hn : x.n ≤ 1000000000000) (hm : x.m ≤ 1000000000000) (h : RwC w r gb cb gt ct x) :
    Calls Tryz.prog 143 #[.pointer (some ⟨r, 0, none⟩)] w fun e w' => ∃ v, e = .returned v ∧ LnO w.heap.size w' v x ∧ Below w.heap.size w w' := by
  have H := Lib.hid h
  have hrl := h.box.lt
  have HBB : Hid (∀ a, Below w.heap.size w (w.alloc a)) := fun a => below_all _ _
  clear h
  go_enter Tryz.func143, Tryz.ntmps143
  go_wp2_with fail
  have HM : Hid (RwC (w.alloc (.cells #[.slice none 0 0, .slice none 0 0] 31)) r gb cb gt ct x) := H.out.below (HBB.out _) (Nat.le_refl _)
  have HL : Hid (Bx (w.alloc (.cells #[.slice none 0 0, .slice none 0 0] 31)) w.heap.size 31 #[.slice none 0 0, .slice none 0 0]) := Bx.new _ _ _
  have HB := Lib.hid (HBB.out (.cells #[.slice none 0 0, .slice none 0 0] 31))
  generalize hW0 : w.alloc (.cells #[.slice none 0 0, .slice none 0 0] 31) = W0 at *
  have hz0 : W0.heap.size = w.heap.size + 1 := by rw [← hW0]; simp
  clear hW0
  have hrc := HM.out.box.cell
  refine wp_region_held_drew (S := (fun w' => w'.cell? ⟨r, 0, none⟩ = some (.slice (some ⟨gb, 0, none⟩) x.n cb) ∧ w'.cell? ⟨r, 1, none⟩ = some (.slice (some ⟨gt, 0, none⟩) x.m ct))) (by kernel_rfl) ?_ (fun hHeld => ?_)
  · try dsimp only
    go_keep
  refine wpAnyH_take (i := 0) (oi := ?_) (v := ?_) ?_ (by kernel_rfl) (by kernel_rfl) (by kernel_rfl) ?_ ?_ (by assumption) ?_
  rotate_left 2
  · simp only [List.getElem?_toArray, List.getElem?_cons_succ, List.getElem?_cons_zero]; rfl
  · exact fun _ _ _ h => h
  · first
      | (refine Or.inr ⟨?_, ?_⟩ <;> rfl)
      | (refine Or.inl ⟨?_, ?_⟩; · rfl
         intro w hSw; (try dsimp only at hSw); go_simp; (try with_reducible rfl); done)
  try simp only [Act.put, List.setIfInBounds_toArray, List.set_cons_zero, List.set_cons_succ]
  refine wpAnyH_take (i := 1) (oi := ?_) (v := ?_) ?_ (by kernel_rfl) (by kernel_rfl) (by kernel_rfl) ?_ ?_ (by assumption) ?_
  rotate_left 2
  · simp only [List.getElem?_toArray, List.getElem?_cons_succ, List.getElem?_cons_zero]; rfl
  · exact fun _ _ _ h => h
  · first
      | (refine Or.inr ⟨?_, ?_⟩ <;> rfl)
      | (refine Or.inl ⟨?_, ?_⟩; · rfl
         intro w hSw; (try dsimp only at hSw); go_simp; (try with_reducible rfl); done)
  try simp only [Act.put, List.setIfInBounds_toArray, List.set_cons_zero, List.set_cons_succ]
  refine wpAnyH_take (i := 2) (oi := ?_) (v := ?_) ?_ (by kernel_rfl) (by kernel_rfl) (by kernel_rfl) ?_ ?_ (by assumption) ?_
  rotate_left 2
  · simp only [List.getElem?_toArray, List.getElem?_cons_succ, List.getElem?_cons_zero]; rfl
  · exact fun _ _ _ h => h
  · first
      | (refine Or.inr ⟨?_, ?_⟩ <;> rfl)
      | (refine Or.inl ⟨?_, ?_⟩; · rfl
         intro w hSw; (try dsimp only at hSw); go_simp; (try with_reducible rfl); done)
  try simp only [Act.put, List.setIfInBounds_toArray, List.set_cons_zero, List.set_cons_succ]
  refine wpAnyH_take (i := 3) (oi := ?_) (v := ?_) ?_ (by kernel_rfl) (by kernel_rfl) (by kernel_rfl) ?_ ?_ (by assumption) ?_
  rotate_left 2
  · simp only [List.getElem?_toArray, List.getElem?_cons_succ, List.getElem?_cons_zero]; rfl
  · exact fun _ _ _ h => h
  · first
      | (refine Or.inr ⟨?_, ?_⟩ <;> rfl)
      | (refine Or.inl ⟨?_, ?_⟩; · rfl
         intro w hSw; (try dsimp only at hSw); go_simp; (try with_reducible rfl); done)
  try simp only [Act.put, List.setIfInBounds_toArray, List.set_cons_zero, List.set_cons_succ]
  refine wpAnyH_take (i := 5) (oi := ?_) (v := ?_) ?_ (by kernel_rfl) (by kernel_rfl) (by kernel_rfl) ?_ ?_ (by assumption) ?_
  rotate_left 2
  · simp only [List.getElem?_toArray, List.getElem?_cons_succ, List.getElem?_cons_zero]; rfl
  · exact fun _ _ _ h => h
  · first
      | (refine Or.inr ⟨?_, ?_⟩ <;> rfl)
      | (refine Or.inl ⟨?_, ?_⟩; · rfl
         intro w hSw; (try dsimp only at hSw); go_simp; (try with_reducible rfl); done)
  try simp only [Act.put, List.setIfInBounds_toArray, List.set_cons_zero, List.set_cons_succ]
  refine wpAnyH_take (i := 6) (oi := ?_) (v := ?_) ?_ (by kernel_rfl) (by kernel_rfl) (by kernel_rfl) ?_ ?_ (by assumption) ?_
  rotate_left 2
  · simp only [List.getElem?_toArray, List.getElem?_cons_succ, List.getElem?_cons_zero]; rfl
  · exact fun _ _ _ h => h
  · first
      | (refine Or.inr ⟨?_, ?_⟩ <;> rfl)
      | (refine Or.inl ⟨?_, ?_⟩; · rfl
         intro w hSw; (try dsimp only at hSw); go_simp; (try with_reducible rfl); done)
  try simp only [Act.put, List.setIfInBounds_toArray, List.set_cons_zero, List.set_cons_succ]
  refine wpAnyH_take (i := 7) (oi := ?_) (v := ?_) ?_ (by kernel_rfl) (by kernel_rfl) (by kernel_rfl) ?_ ?_ (by assumption) ?_
  rotate_left 2
  · simp only [List.getElem?_toArray, List.getElem?_cons_succ, List.getElem?_cons_zero]; rfl
  · exact fun _ _ _ h => h
  · first
      | (refine Or.inr ⟨?_, ?_⟩ <;> rfl)
      | (refine Or.inl ⟨?_, ?_⟩; · rfl
         intro w hSw; (try dsimp only at hSw); go_simp; (try with_reducible rfl); done)
  try simp only [Act.put, List.setIfInBounds_toArray, List.set_cons_zero, List.set_cons_succ]
  refine wpAnyH_take (i := 8) (oi := ?_) (v := ?_) ?_ (by kernel_rfl) (by kernel_rfl) (by kernel_rfl) ?_ ?_ (by assumption) ?_
  rotate_left 2
  · simp only [List.getElem?_toArray, List.getElem?_cons_succ, List.getElem?_cons_zero]; rfl
  · exact fun _ _ _ h => h
  · first
      | (refine Or.inr ⟨?_, ?_⟩ <;> rfl)
      | (refine Or.inl ⟨?_, ?_⟩; · rfl
         intro w hSw; (try dsimp only at hSw); go_simp; (try with_reducible rfl); done)
  try simp only [Act.put, List.setIfInBounds_toArray, List.set_cons_zero, List.set_cons_succ]
  refine wpAnyH_ready (rs := [4]) (by kernel_rfl) (by simp) ?_
  refine AllReadyH.cons (o := ?_) ?_ (fun K hK => ?_) AllReadyH.nil
  rotate_left 1
  · simp only [List.getElem?_toArray, List.getElem?_cons_succ, List.getElem?_cons_zero]; rfl
  go_simp
  go_at_call 157
  go_must (refine Calls.mono (cloneB_any gb 0 x.n cb x.N x.I x.O _ hn HM.out.bk) ?_)
  rintro e w1 ⟨g1, c1, rfl, hg1, ho1, hb1⟩
  have HO1 := Lib.hid ho1
  replace hb1 : Below W0.heap.size W0 w1 := (Below.refl _ W0).drew.trans hb1
  have HB1 := Lib.hid (HB.out.trans (hb1.mono (by omega)))
  have HM1 := Lib.hid (HM.out.below (w' := w1) hb1 (Nat.le_refl _))
  have HL1 := Lib.hid (HL.out.below (w' := w1) hb1 HL.out.lt)
  have hrc := HM1.out.box.cell
  have hz1 : W0.heap.size ≤ w1.heap.size := hb1.size
  have hg1' : w.heap.size + 1 ≤ g1 := by simp at hg1; omega
  clear ho1 hb1 hg1
  refine hK.out _ _ ?_ (fun hHeld => ?_)
  · try dsimp only
    go_keep
  clear hK K
  try simp only [Act.put, List.setIfInBounds_toArray, List.set_cons_zero, List.set_cons_succ]
  refine wpAnyH_ready (rs := [9]) (by kernel_rfl) (by simp) ?_
  refine AllReadyH.cons (o := ?_) ?_ (fun K hK => ?_) AllReadyH.nil
  rotate_left 1
  · simp only [List.getElem?_toArray, List.getElem?_cons_succ, List.getElem?_cons_zero]; rfl
  go_simp
  go_at_call 158
  go_must (refine Calls.mono (clone_any gt 0 x.m ct x.T _ hm HM1.out.ic) ?_)
  rintro e w2 ⟨g2, c2, rfl, hg2, ho2, hb2⟩
  have HO2 := Lib.hid ho2
  have HB2 := Lib.hid (HB1.out.trans (hb2.mono (by omega)))
  have HT := Lib.hid (rw_two HO1.out hb2 hg2)
  have HM2 := Lib.hid (HM1.out.below hb2 (Nat.le_refl _))
  have HL2 := Lib.hid (HL1.out.below hb2 HL1.out.lt)
  have hrc := HM2.out.box.cell
  have hlf := HL2.out.free
  have hlc := HL2.out.cell
  have hz2 : w1.heap.size ≤ w2.heap.size := hb2.size
  have hg2' : w.heap.size + 1 ≤ g2 := by omega
  have hne : r ≠ w.heap.size := by omega
  clear ho2 hb2 hg2
  refine hK.out _ _ ?_ (fun hHeld => ?_)
  · try dsimp only
    go_keep
  clear hK K
  try simp only [Act.put, List.setIfInBounds_toArray, List.set_cons_zero, List.set_cons_succ]
  refine wpAnyH_take (i := 10) (oi := ?_) (v := ?_) ?_ (by kernel_rfl) (by kernel_rfl) (by kernel_rfl) ?_ ?_ (by assumption) ?_
  rotate_left 2
  · simp only [List.getElem?_toArray, List.getElem?_cons_succ, List.getElem?_cons_zero]; rfl
  · exact fun _ _ _ h => h
  · first
      | (refine Or.inr ⟨?_, ?_⟩ <;> rfl)
      | (refine Or.inl ⟨?_, ?_⟩; · rfl
         intro w hSw; (try dsimp only at hSw); go_simp; (try with_reducible rfl); done)
  try simp only [Act.put, List.setIfInBounds_toArray, List.set_cons_zero, List.set_cons_succ]
  refine wpAnyH_ready (rs := [11]) (by kernel_rfl) (by simp) ?_
  refine AllReadyH.cons (o := ?_) ?_ (fun K hK => ?_) AllReadyH.nil
  rotate_left 1
  · simp only [List.getElem?_toArray, List.getElem?_cons_succ, List.getElem?_cons_zero]; rfl
  go_simp
  refine hK.out _ _ ?_ (fun hHeld => ?_)
  · try dsimp only
    have hk := ((HM2.out.box.setOther (a := ⟨w.heap.size, 0, none⟩) hne (.slice (some ⟨g1, 0, none⟩) x.n c1)).setOther (a := ⟨w.heap.size, 1, none⟩) hne (.slice (some ⟨g2, 0, none⟩) x.m c2)).cell
    exact ⟨hk 0, hk 1⟩
  clear hK K
  try simp only [Act.put, List.setIfInBounds_toArray, List.set_cons_zero, List.set_cons_succ]
  refine wpAnyH_done (by kernel_rfl) ?_ _
  go_wp2_with fail
  exact bodyPost_ret (v := .agg #[.slice (some ⟨g1, 0, none⟩) x.n c1, .slice (some ⟨g2, 0, none⟩) x.m c2]) (by simp [results, Tryz.results143, go_sem, hlc]) rfl ⟨_, rfl, ⟨g1, c1, g2, c2, rfl, (HT.out.1.setOther (by dsimp only; omega) _).setOther (by dsimp only; omega) _, (HO2.out.setOther (by dsimp only; omega) _).setOther (by dsimp only; omega) _, HT.out.2.1, by omega, by omega⟩, (HB2.out.setCell (Nat.le_refl _) _).setCell (Nat.le_refl _) _⟩
end Go.Proofs.YtlkdmpfifpkpaaaGreatDoor
