/-
  Parts of the proof: Bn Bl Cb Lp. No condition.
-/
import Derived.Test.YtlkdmpfifpkpaaaGreatDoorV09
namespace Go.Proofs.YtlkdmpfifpkpaaaGreatDoor
open Go.RowKit
def eL : List UInt8 := [97, 99, 101, 102, 108, 111, 114]
def nxT (k m : Nat) : List UInt8 := (eL.take m).filter (fun c => decide (nx k c.toNat < 5))
theorem nxT_none : ∀ k, nxT (k + 5) 7 = [] := fun k => by simp [nxT, nx]
theorem nxT_no {k : Nat} (h : ¬ k < 5) : nxT k 7 = [] := by
 obtain ⟨j, rfl⟩ : ∃ j, k = j + 5 := ⟨k - 5, by omega⟩
 exact nxT_none j
theorem nxT_len (k m : Nat) : (nxT k m).length ≤ 7 := by
 refine Nat.le_trans (List.length_filter_le _ _) ?_
 simp [eL]
 omega
theorem nxT_yes {k m : Nat} {c : UInt8} (hc : eL[m]? = some c) (h : nx k c.toNat < 5) : nxT k (m + 1) = nxT k m ++ [c] := by
 simp [nxT, List.take_add_one, hc, h]
theorem nxT_skip {k m : Nat} {c : UInt8} (hc : eL[m]? = some c) (h : ¬ nx k c.toNat < 5) : nxT k (m + 1) = nxT k m := by
 simp [nxT, List.take_add_one, hc, h]
structure BnM (w wr : World) (b : Nat) (l : List UInt8) : Prop where
  sb : Sb w.heap.size b (Lib.byteCells l) wr
  bl : Below w.heap.size w wr
set_option linter.unusedSimpArgs false in
set_option maxRecDepth 100000 in
set_option maxHeartbeats 4000000 in
theorem next_any (n : Int) (i o : Bool) (w : World) :
    Calls Tryz.prog 167 #[.agg #[.int .i64 n, .bool i, .bool o]] w fun e w' => e = .returned (.string ⟨(nxT (stI n i o) 7).toArray⟩) ∧ Below w.heap.size w w' := by
  have HW : Hid (Below w.heap.size w (w.alloc (.cells #[.int .i64 n, .bool i, .bool o] 76))) := below_all _ _
  by_cases h5 : ¬ stI n i o < 5
  ·have HD : Hid (decide (stI n i o < 5) = false) := decide_eq_false h5
   have HJ := Lib.hid (nxT_no h5)
   clear h5
   go_enter Tryz.func167, Tryz.ntmps167
   go_wp2_with fail
   refine (instr_any n i o _).mono ?_
   rintro e w1 ⟨rfl, hb⟩
   have HB := Lib.hid (HW.out.trans (hb.mono (by simp)))
   clear hb
   rw [HD.out]
   go_wp2_with fail
   go_ret
   exact ⟨by rw [HJ.out]; rfl, HB.out⟩
  replace h5 := Decidable.not_not.1 h5
  have HD : Hid (decide (stI n i o < 5) = true) := decide_eq_true h5
  have HIV := Lib.hid (inV_at h5)
  go_enter Tryz.func167, Tryz.ntmps167
  go_wp2_with fail
  refine (instr_any n i o _).mono ?_
  rintro e w1 ⟨rfl, hb⟩
  have HB := Lib.hid (HW.out.trans (hb.mono (by simp)))
  clear hb
  rw [HD.out, HIV.out]
  go_wp2_with fail
  go_loopw [6, 7, 8, 16] (fun _ _ _ si wr => ∃ m : Nat, m ≤ 7 ∧ si = .int .i64 m ∧ Hid (BnM w wr w1.heap.size (nxT (stI n i o) m))) (fun _ _ _ si _ => 7 - (intOf si).toNat)
  case atStart => exact ⟨0, by omega, rfl, Lib.hid ⟨Or.inl ⟨HB.out.size, .slice none 0 0, Bx.new _ _ _, ⟨rfl, Or.inl ⟨rfl, rfl⟩⟩, by simp [Value.ownBlock]⟩, HB.out.alloc HB.out.size _⟩⟩
  case round =>
   obtain ⟨m, hm, rfl, HM⟩ := hrel
   obtain rfl | rfl | rfl | rfl | rfl | rfl | rfl | rfl : m = 0 ∨ m = 1 ∨ m = 2 ∨ m = 3 ∨ m = 4 ∨ m = 5 ∨ m = 6 ∨ m = 7 := by omega
   ·by_cases h1 : nx (stI n i o) ((97 : Nat) : Int) < 5
    ·have HN := Lib.hid (nxT_yes (k := stI n i o) (m := 0) (c := 97) rfl h1)
     have HD : Hid (decide (nx (stI n i o) ((97 : Nat) : Int) < 5) = true) := decide_eq_true h1
     clear h1
     go_wp2_with fail
     refine (stateBehind_any _ ((97 : Nat) : Int) _ h5).mono ?_
     rintro e w2 ⟨rfl, rfl⟩
     rw [HD.out]
     go_wp2_with fail
     refine (writeByte_any w.heap.size w1.heap.size _ ((97 : Nat) : Int) _ HM.out.sb (by have := nxT_len (stI n i o) 0; simp [Lib.byteCells_length]; omega) HM.out.bl.size).mono ?_
     rintro e w3 ⟨rfl, hs, hb⟩
     have HS := Lib.hid hs
     have HBB := Lib.hid hb
     clear hs hb
     go_wp2_with fail
     go_roundw
     case rel => exact ⟨0 + 1, by omega, by go_num, Lib.hid ⟨by rw [HN.out]; exact Or.inr (by simpa [Lib.byteCells] using HS.out), HM.out.bl.trans HBB.out⟩⟩
     case measure => simp [intOf]
    ·have HN := Lib.hid (nxT_skip (k := stI n i o) (m := 0) (c := 97) rfl h1)
     have HD : Hid (decide (nx (stI n i o) ((97 : Nat) : Int) < 5) = false) := decide_eq_false h1
     clear h1
     go_wp2_with fail
     refine (stateBehind_any _ ((97 : Nat) : Int) _ h5).mono ?_
     rintro e w2 ⟨rfl, rfl⟩
     rw [HD.out]
     go_wp2_with fail
     go_roundw
     case rel => exact ⟨0 + 1, by omega, by go_num, Lib.hid (by rw [HN.out]; exact HM.out)⟩
     case measure => simp [intOf]
   ·by_cases h1 : nx (stI n i o) ((99 : Nat) : Int) < 5
    ·have HN := Lib.hid (nxT_yes (k := stI n i o) (m := 1) (c := 99) rfl h1)
     have HD : Hid (decide (nx (stI n i o) ((99 : Nat) : Int) < 5) = true) := decide_eq_true h1
     clear h1
     go_wp2_with fail
     refine (stateBehind_any _ ((99 : Nat) : Int) _ h5).mono ?_
     rintro e w2 ⟨rfl, rfl⟩
     rw [HD.out]
     go_wp2_with fail
     refine (writeByte_any w.heap.size w1.heap.size _ ((99 : Nat) : Int) _ HM.out.sb (by have := nxT_len (stI n i o) 1; simp [Lib.byteCells_length]; omega) HM.out.bl.size).mono ?_
     rintro e w3 ⟨rfl, hs, hb⟩
     have HS := Lib.hid hs
     have HBB := Lib.hid hb
     clear hs hb
     go_wp2_with fail
     go_roundw
     case rel => exact ⟨1 + 1, by omega, by go_num, Lib.hid ⟨by rw [HN.out]; exact Or.inr (by simpa [Lib.byteCells] using HS.out), HM.out.bl.trans HBB.out⟩⟩
     case measure => simp [intOf]
    ·have HN := Lib.hid (nxT_skip (k := stI n i o) (m := 1) (c := 99) rfl h1)
     have HD : Hid (decide (nx (stI n i o) ((99 : Nat) : Int) < 5) = false) := decide_eq_false h1
     clear h1
     go_wp2_with fail
     refine (stateBehind_any _ ((99 : Nat) : Int) _ h5).mono ?_
     rintro e w2 ⟨rfl, rfl⟩
     rw [HD.out]
     go_wp2_with fail
     go_roundw
     case rel => exact ⟨1 + 1, by omega, by go_num, Lib.hid (by rw [HN.out]; exact HM.out)⟩
     case measure => simp [intOf]
   ·by_cases h1 : nx (stI n i o) ((101 : Nat) : Int) < 5
    ·have HN := Lib.hid (nxT_yes (k := stI n i o) (m := 2) (c := 101) rfl h1)
     have HD : Hid (decide (nx (stI n i o) ((101 : Nat) : Int) < 5) = true) := decide_eq_true h1
     clear h1
     go_wp2_with fail
     refine (stateBehind_any _ ((101 : Nat) : Int) _ h5).mono ?_
     rintro e w2 ⟨rfl, rfl⟩
     rw [HD.out]
     go_wp2_with fail
     refine (writeByte_any w.heap.size w1.heap.size _ ((101 : Nat) : Int) _ HM.out.sb (by have := nxT_len (stI n i o) 2; simp [Lib.byteCells_length]; omega) HM.out.bl.size).mono ?_
     rintro e w3 ⟨rfl, hs, hb⟩
     have HS := Lib.hid hs
     have HBB := Lib.hid hb
     clear hs hb
     go_wp2_with fail
     go_roundw
     case rel => exact ⟨2 + 1, by omega, by go_num, Lib.hid ⟨by rw [HN.out]; exact Or.inr (by simpa [Lib.byteCells] using HS.out), HM.out.bl.trans HBB.out⟩⟩
     case measure => simp [intOf]
    ·have HN := Lib.hid (nxT_skip (k := stI n i o) (m := 2) (c := 101) rfl h1)
     have HD : Hid (decide (nx (stI n i o) ((101 : Nat) : Int) < 5) = false) := decide_eq_false h1
     clear h1
     go_wp2_with fail
     refine (stateBehind_any _ ((101 : Nat) : Int) _ h5).mono ?_
     rintro e w2 ⟨rfl, rfl⟩
     rw [HD.out]
     go_wp2_with fail
     go_roundw
     case rel => exact ⟨2 + 1, by omega, by go_num, Lib.hid (by rw [HN.out]; exact HM.out)⟩
     case measure => simp [intOf]
   ·by_cases h1 : nx (stI n i o) ((102 : Nat) : Int) < 5
    ·have HN := Lib.hid (nxT_yes (k := stI n i o) (m := 3) (c := 102) rfl h1)
     have HD : Hid (decide (nx (stI n i o) ((102 : Nat) : Int) < 5) = true) := decide_eq_true h1
     clear h1
     go_wp2_with fail
     refine (stateBehind_any _ ((102 : Nat) : Int) _ h5).mono ?_
     rintro e w2 ⟨rfl, rfl⟩
     rw [HD.out]
     go_wp2_with fail
     refine (writeByte_any w.heap.size w1.heap.size _ ((102 : Nat) : Int) _ HM.out.sb (by have := nxT_len (stI n i o) 3; simp [Lib.byteCells_length]; omega) HM.out.bl.size).mono ?_
     rintro e w3 ⟨rfl, hs, hb⟩
     have HS := Lib.hid hs
     have HBB := Lib.hid hb
     clear hs hb
     go_wp2_with fail
     go_roundw
     case rel => exact ⟨3 + 1, by omega, by go_num, Lib.hid ⟨by rw [HN.out]; exact Or.inr (by simpa [Lib.byteCells] using HS.out), HM.out.bl.trans HBB.out⟩⟩
     case measure => simp [intOf]
    ·have HN := Lib.hid (nxT_skip (k := stI n i o) (m := 3) (c := 102) rfl h1)
     have HD : Hid (decide (nx (stI n i o) ((102 : Nat) : Int) < 5) = false) := decide_eq_false h1
     clear h1
     go_wp2_with fail
     refine (stateBehind_any _ ((102 : Nat) : Int) _ h5).mono ?_
     rintro e w2 ⟨rfl, rfl⟩
     rw [HD.out]
     go_wp2_with fail
     go_roundw
     case rel => exact ⟨3 + 1, by omega, by go_num, Lib.hid (by rw [HN.out]; exact HM.out)⟩
     case measure => simp [intOf]
   ·by_cases h1 : nx (stI n i o) ((108 : Nat) : Int) < 5
    ·have HN := Lib.hid (nxT_yes (k := stI n i o) (m := 4) (c := 108) rfl h1)
     have HD : Hid (decide (nx (stI n i o) ((108 : Nat) : Int) < 5) = true) := decide_eq_true h1
     clear h1
     go_wp2_with fail
     refine (stateBehind_any _ ((108 : Nat) : Int) _ h5).mono ?_
     rintro e w2 ⟨rfl, rfl⟩
     rw [HD.out]
     go_wp2_with fail
     refine (writeByte_any w.heap.size w1.heap.size _ ((108 : Nat) : Int) _ HM.out.sb (by have := nxT_len (stI n i o) 4; simp [Lib.byteCells_length]; omega) HM.out.bl.size).mono ?_
     rintro e w3 ⟨rfl, hs, hb⟩
     have HS := Lib.hid hs
     have HBB := Lib.hid hb
     clear hs hb
     go_wp2_with fail
     go_roundw
     case rel => exact ⟨4 + 1, by omega, by go_num, Lib.hid ⟨by rw [HN.out]; exact Or.inr (by simpa [Lib.byteCells] using HS.out), HM.out.bl.trans HBB.out⟩⟩
     case measure => simp [intOf]
    ·have HN := Lib.hid (nxT_skip (k := stI n i o) (m := 4) (c := 108) rfl h1)
     have HD : Hid (decide (nx (stI n i o) ((108 : Nat) : Int) < 5) = false) := decide_eq_false h1
     clear h1
     go_wp2_with fail
     refine (stateBehind_any _ ((108 : Nat) : Int) _ h5).mono ?_
     rintro e w2 ⟨rfl, rfl⟩
     rw [HD.out]
     go_wp2_with fail
     go_roundw
     case rel => exact ⟨4 + 1, by omega, by go_num, Lib.hid (by rw [HN.out]; exact HM.out)⟩
     case measure => simp [intOf]
   ·by_cases h1 : nx (stI n i o) ((111 : Nat) : Int) < 5
    ·have HN := Lib.hid (nxT_yes (k := stI n i o) (m := 5) (c := 111) rfl h1)
     have HD : Hid (decide (nx (stI n i o) ((111 : Nat) : Int) < 5) = true) := decide_eq_true h1
     clear h1
     go_wp2_with fail
     refine (stateBehind_any _ ((111 : Nat) : Int) _ h5).mono ?_
     rintro e w2 ⟨rfl, rfl⟩
     rw [HD.out]
     go_wp2_with fail
     refine (writeByte_any w.heap.size w1.heap.size _ ((111 : Nat) : Int) _ HM.out.sb (by have := nxT_len (stI n i o) 5; simp [Lib.byteCells_length]; omega) HM.out.bl.size).mono ?_
     rintro e w3 ⟨rfl, hs, hb⟩
     have HS := Lib.hid hs
     have HBB := Lib.hid hb
     clear hs hb
     go_wp2_with fail
     go_roundw
     case rel => exact ⟨5 + 1, by omega, by go_num, Lib.hid ⟨by rw [HN.out]; exact Or.inr (by simpa [Lib.byteCells] using HS.out), HM.out.bl.trans HBB.out⟩⟩
     case measure => simp [intOf]
    ·have HN := Lib.hid (nxT_skip (k := stI n i o) (m := 5) (c := 111) rfl h1)
     have HD : Hid (decide (nx (stI n i o) ((111 : Nat) : Int) < 5) = false) := decide_eq_false h1
     clear h1
     go_wp2_with fail
     refine (stateBehind_any _ ((111 : Nat) : Int) _ h5).mono ?_
     rintro e w2 ⟨rfl, rfl⟩
     rw [HD.out]
     go_wp2_with fail
     go_roundw
     case rel => exact ⟨5 + 1, by omega, by go_num, Lib.hid (by rw [HN.out]; exact HM.out)⟩
     case measure => simp [intOf]
   ·by_cases h1 : nx (stI n i o) ((114 : Nat) : Int) < 5
    ·have HN := Lib.hid (nxT_yes (k := stI n i o) (m := 6) (c := 114) rfl h1)
     have HD : Hid (decide (nx (stI n i o) ((114 : Nat) : Int) < 5) = true) := decide_eq_true h1
     clear h1
     go_wp2_with fail
     refine (stateBehind_any _ ((114 : Nat) : Int) _ h5).mono ?_
     rintro e w2 ⟨rfl, rfl⟩
     rw [HD.out]
     go_wp2_with fail
     refine (writeByte_any w.heap.size w1.heap.size _ ((114 : Nat) : Int) _ HM.out.sb (by have := nxT_len (stI n i o) 6; simp [Lib.byteCells_length]; omega) HM.out.bl.size).mono ?_
     rintro e w3 ⟨rfl, hs, hb⟩
     have HS := Lib.hid hs
     have HBB := Lib.hid hb
     clear hs hb
     go_wp2_with fail
     go_roundw
     case rel => exact ⟨6 + 1, by omega, by go_num, Lib.hid ⟨by rw [HN.out]; exact Or.inr (by simpa [Lib.byteCells] using HS.out), HM.out.bl.trans HBB.out⟩⟩
     case measure => simp [intOf]
    ·have HN := Lib.hid (nxT_skip (k := stI n i o) (m := 6) (c := 114) rfl h1)
     have HD : Hid (decide (nx (stI n i o) ((114 : Nat) : Int) < 5) = false) := decide_eq_false h1
     clear h1
     go_wp2_with fail
     refine (stateBehind_any _ ((114 : Nat) : Int) _ h5).mono ?_
     rintro e w2 ⟨rfl, rfl⟩
     rw [HD.out]
     go_wp2_with fail
     go_roundw
     case rel => exact ⟨6 + 1, by omega, by go_num, Lib.hid (by rw [HN.out]; exact HM.out)⟩
     case measure => simp [intOf]
   ·go_wp2_with fail
    refine (string_any w.heap.size _ _ _ HM.out.sb HM.out.bl.size).mono ?_
    rintro e w3 ⟨rfl, hb⟩
    have HB3 := Lib.hid (HM.out.bl.trans hb)
    clear hb
    go_wp2_with fail
    go_ret
    exact ⟨rfl, HB3.out⟩
def BkC (w : World) (b off n : Nat) (N : Nat → Int) (I O : Nat → Bool) : Prop :=
 ∀ k, k < n → w.cell? ⟨b, off + k * 3, none⟩ = some (.int .i64 (N k)) ∧ w.cell? ⟨b, off + k * 3 + 1, none⟩ = some (.bool (I k)) ∧ w.cell? ⟨b, off + k * 3 + 2, none⟩ = some (.bool (O k))
theorem BkC.at {w : World} {b off n : Nat} {N : Nat → Int} {I O : Nat → Bool} (h : BkC w b off n N I O) (k : Nat) (hk : k < n) :
    w.cell? ⟨b, off + k * 3, none⟩ = some (.int .i64 (N k)) ∧ w.cell? ⟨b, off + k * 3 + 1, none⟩ = some (.bool (I k)) ∧ w.cell? ⟨b, off + k * 3 + 2, none⟩ = some (.bool (O k)) := h k hk
theorem BkC.below {w w' : World} {b off n B : Nat} {N : Nat → Int} {I O : Nat → Bool} (h : BkC w b off n N I O) (hb : Below B w w') (hB : b < B) : BkC w' b off n N I O := fun k hk => by
 obtain ⟨h1, h2, h3⟩ := h k hk
 exact ⟨by rw [hb.cell (p := ⟨b, off + k * 3, none⟩) hB]; exact h1, by rw [hb.cell (p := ⟨b, off + k * 3 + 1, none⟩) hB]; exact h2, by rw [hb.cell (p := ⟨b, off + k * 3 + 2, none⟩) hB]; exact h3⟩
def cntA (f : Nat → Int) (p : Int) : Nat → Nat
  | 0 => 0
  | m + 1 => cntA f p m + if f m = p then 1 else 0
theorem cntA_le (f : Nat → Int) (p : Int) : ∀ m, cntA f p m ≤ m
  | 0 => Nat.le_refl _
  | m + 1 => by
   have := cntA_le f p m
   simp only [cntA]
   split <;> omega
set_option linter.unusedSimpArgs false in
theorem count_any (r : Nat) (bv : Value) (b off n c : Nat) (f : Nat → Int) (p : Int) (w : World) (hn : n ≤ 1000000000000) (hr : Bx w r 195 #[bv, .slice (some ⟨b, off, none⟩) n c]) (hc : IC w b off n f) :
    Calls Tryz.prog 160 #[.pointer (some ⟨r, 0, none⟩), .int .i64 p] w fun e w' => e = .returned (.int .i64 (cntA f p n)) ∧ w = w' := by
  have hrc := hr.cell
  clear hr
  go_enter Tryz.func160, Tryz.ntmps160
  go_wp2_with fail
  go_loop [5, 7, 13] (fun s _ si => ∃ k : Nat, k ≤ n ∧ si = .int .i64 k ∧ s = .int .i64 (cntA f p k)) (fun _ _ si => n - (intOf si).toNat)
  case atStart => exact ⟨0, Nat.zero_le _, rfl, rfl⟩
  case round =>
   obtain ⟨k, hk, rfl, rfl⟩ := hrel
   have hle := cntA_le f p k
   by_cases hlt : k < n
   ·have hck := hc.at k hlt
    by_cases h1 : f k = p
    ·have h2 : (f k == p) = true := by simp [h1]
     have HE : Hid (cntA f p (k + 1) = cntA f p k + 1) := by show _ = _; simp [cntA, h1]
     clear h1
     go_wp2_with fail
     go_round
     case rel => exact ⟨k + 1, by omega, by go_num, by rw [HE.out]; go_num⟩
     case measure => simp [intOf]; omega
    ·have h2 : (f k == p) = false := by simp [h1]
     have HE : Hid (cntA f p (k + 1) = cntA f p k) := by show _ = _; simp [cntA, h1]
     clear h1
     go_wp2_with fail
     go_round
     case rel => exact ⟨k + 1, by omega, by go_num, by rw [HE.out]⟩
     case measure => simp [intOf]; omega
   ·have e : k = n := by omega
    subst e
    go_wp2_with fail
    go_ret
    exact ⟨rfl, rfl⟩
theorem sectionsValid_any (n : Int) (w : World) (_hn : -9223372036854775808 ≤ n ∧ n ≤ 9223372036854775807) :
    Calls Tryz.prog 42 #[.int .i64 n] w fun e w' => e = .returned (.bool (inB n 1 5)) ∧ w = w' := by
  by_cases h : 1 ≤ n
  ·have g : decide (1 ≤ n) = true := decide_eq_true h
   have H : Hid (inB n 1 5 = decide (n ≤ 5)) := by show _ = _; unfold inB; rw [g]; rfl
   go_enter Tryz.func42, Tryz.ntmps42
   go_wp2
   go_ret
   exact ⟨retB (by rw [H.out]), rfl⟩
  ·have g : decide (1 ≤ n) = false := decide_eq_false h
   have H : Hid (inB n 1 5 = false) := by show _ = _; unfold inB; rw [g]; rfl
   go_enter Tryz.func42, Tryz.ntmps42
   go_wp2
   go_ret
   exact ⟨retB (by rw [H.out]), rfl⟩
def posB (N : Nat → Int) (I O : Nat → Bool) (k : Nat) : Bool := decide (stI (N k) (I k) (O k) < 5)
set_option linter.unusedSimpArgs false in
set_option maxHeartbeats 1000000 in
theorem blkPossible_any (b off n c : Nat) (N : Nat → Int) (I O : Nat → Bool) (w : World) (hn : n ≤ 1000000000000) (hc : BkC w b off n N I O) (hb : b < w.heap.size) :
    Calls Tryz.prog 159 #[.slice (some ⟨b, off, none⟩) n c] w fun e w' => e = .returned (.bool (inB n 1 5 && allB n (posB N I O))) ∧ Below w.heap.size w w' := by
  have HC := Lib.hid hc
  have HB := Lib.hid hb
  clear hc hb
  by_cases h1 : inB n 1 5 = true
  ·go_enter Tryz.func159, Tryz.ntmps159
   go_wp2_with fail
   refine (sectionsValid_any _ _ (by omega)).mono ?_
   rintro e w' ⟨rfl, rfl⟩
   rw [h1]
   have H1 := Lib.hid h1
   clear h1
   go_wp2_with fail
   go_loopw [4, 11] (fun _ si wr => ∃ k : Nat, k ≤ n ∧ si = .int .i64 k ∧ Hid (∀ j, j < k → posB N I O j = true) ∧ Hid (Below w.heap.size w wr)) (fun _ si _ => n - (intOf si).toNat)
   case atStart => exact ⟨0, Nat.zero_le _, rfl, Lib.hid (fun j hj => by omega), Lib.hid (Below.refl _ _)⟩
   case round =>
    obtain ⟨k, hk, rfl, HA, HW⟩ := hrel
    by_cases hlt : k < n
    ·obtain ⟨c0, c1, c2⟩ := (HC.out.below HW.out HB.out).at k hlt
     have HWB : Hid (∀ a, Below w.heap.size w (wr.alloc a)) := fun a => HW.out.alloc HW.out.size _
     by_cases h2 : posB N I O k = true
     ·have HE := Lib.hid h2
      have h3 : decide (stI (N k) (I k) (O k) < 5) = true := h2
      clear h2
      go_wp2_with fail
      refine (possible_any _ _ _ _).mono ?_
      rintro e w2 ⟨rfl, hb⟩
      have HB2 := Lib.hid ((HWB.out _).trans (hb.mono (by have := HW.out.size; simp; omega)))
      clear hb
      rw [h3]
      go_wp2_with fail
      go_roundw
      case rel => exact ⟨k + 1, by omega, by go_num, Lib.hid (fun j hj => by
         by_cases e : j = k
         ·rw [e]; exact HE.out
         ·exact HA.out j (by omega)), HB2⟩
      case measure => simp [intOf]; omega
     ·have HE : Hid (allB n (posB N I O) = false) := allB_not hlt (by simpa using h2)
      have h3 : decide (stI (N k) (I k) (O k) < 5) = false := by simpa [posB] using h2
      clear h2
      go_wp2_with fail
      refine (possible_any _ _ _ _).mono ?_
      rintro e w2 ⟨rfl, hb⟩
      have HB2 := Lib.hid ((HWB.out _).trans (hb.mono (by have := HW.out.size; simp; omega)))
      clear hb
      rw [h3]
      go_wp2_with fail
      go_ret
      exact ⟨retB (by rw [H1.out, HE.out]; rfl), HB2.out⟩
    ·have e : k = n := by omega
     subst e
     go_wp2_with fail
     go_ret
     exact ⟨retB (by rw [H1.out, allB_of HA.out]; rfl), HW.out⟩
  ·replace h1 := eq_false_of_ne_true h1
   go_enter Tryz.func159, Tryz.ntmps159
   go_wp2_with fail
   refine (sectionsValid_any _ _ (by omega)).mono ?_
   rintro e w' ⟨rfl, rfl⟩
   rw [h1]
   have H1 := Lib.hid h1
   clear h1
   go_wp2_with fail
   go_ret
   exact ⟨retB (by rw [H1.out]; rfl), Below.refl _ _⟩
def lefV (n : Int) (i o : Bool) (t : Nat) : Int :=
 if o = true ∧ 0 < t then 5 * t - 1 else if n = 1 ∧ 0 < t then 5 * t - 2 else if i = true then 5 * t + 2 else if n = 0 ∧ i = false ∧ o = false then 5 * t else 5 * t + 1
set_option linter.unusedSimpArgs false in
set_option maxHeartbeats 2000000 in
theorem left_any (b off n c : Nat) (N : Nat → Int) (I O : Nat → Bool) (k t : Nat) (w : World) (ht : t ≤ 1000000) (hk : k < n) (hc : BkC w b off n N I O) :
    Calls Tryz.prog 163 #[.slice (some ⟨b, off, none⟩) n c, .int .i64 k, .int .i64 t] w fun e w' => e = .returned (.int .i64 (lefV (N k) (I k) (O k) t)) ∧ Below w.heap.size w w' := by
  have HW : Hid (∀ a, Below w.heap.size w (w.alloc a)) := fun a => below_all _ _
  obtain ⟨c0, c1, c2⟩ := hc k hk
  clear hc
  revert c0 c1 c2
  generalize N k = x
  generalize I k = i
  generalize O k = o
  intro c0 c1 c2
  cases i <;> cases o
  ·rcases Nat.eq_zero_or_pos t with h0 | h0
   ·subst h0
    by_cases h1 : x = 1
    ·subst h1
     have HV : Hid (lefV 1 false false 0 = (if false = true then 2 else 1)) := rfl
     go_enter Tryz.func163, Tryz.ntmps163
     go_wp2_with fail
     go_ret
     exact ⟨by rw [HV.out]; first | rfl | (simp; done) | (simp; omega), HW.out _⟩
    ·have g1 : (x == 1) = false := by simp [h1]
     by_cases h2 : x = 0
     ·subst h2
      have HV : Hid (lefV 0 false false 0 = (if false = true then 2 else if false = true then 1 else 0)) := rfl
      clear g1 h1
      go_enter Tryz.func163, Tryz.ntmps163
      go_wp2_with fail
      go_ret
      exact ⟨by rw [HV.out]; first | rfl | (simp; done) | (simp; omega), HW.out _⟩
     ·have g2 : (x == 0) = false := by simp [h2]
      have HV : Hid (lefV x false false 0 = (if false = true then 2 else 1)) := by show _ = _; simp [lefV, h1, h2]
      go_enter Tryz.func163, Tryz.ntmps163
      go_wp2_with fail
      go_ret
      exact ⟨by rw [HV.out]; first | rfl | (simp; done) | (simp; omega), HW.out _⟩
   ·have g0 : (0 : Int) < (t : Int) := by omega
    by_cases h1 : x = 1
    ·subst h1
     have HV : Hid (lefV 1 false false t = 5 * t - (if false = true then 1 else 2)) := by show _ = _; simp [lefV, h0]
     go_enter Tryz.func163, Tryz.ntmps163
     go_wp2_with fail
     go_ret
     exact ⟨by rw [HV.out]; first | rfl | (simp; done) | (simp; omega), HW.out _⟩
    ·have g1 : (x == 1) = false := by simp [h1]
     by_cases h2 : x = 0
     ·subst h2
      have HV : Hid (lefV 0 false false t = 5 * t + (if false = true then -1 else if false = true then 2 else 0)) := by show _ = _; simp [lefV, h0]; try omega
      clear g1 h1
      go_enter Tryz.func163, Tryz.ntmps163
      go_wp2_with fail
      go_ret
      exact ⟨by rw [HV.out]; first | rfl | (simp; done) | (simp; omega), HW.out _⟩
     ·have g2 : (x == 0) = false := by simp [h2]
      have HV : Hid (lefV x false false t = 5 * t + (if false = true then -1 else if false = true then 2 else 1)) := by show _ = _; simp [lefV, h0, h1, h2]; try omega
      go_enter Tryz.func163, Tryz.ntmps163
      go_wp2_with fail
      go_ret
      exact ⟨by rw [HV.out]; first | rfl | (simp; done) | (simp; omega), HW.out _⟩
  ·rcases Nat.eq_zero_or_pos t with h0 | h0
   ·subst h0
    by_cases h1 : x = 1
    ·subst h1
     have HV : Hid (lefV 1 false true 0 = (if false = true then 2 else 1)) := rfl
     go_enter Tryz.func163, Tryz.ntmps163
     go_wp2_with fail
     go_ret
     exact ⟨by rw [HV.out]; first | rfl | (simp; done) | (simp; omega), HW.out _⟩
    ·have g1 : (x == 1) = false := by simp [h1]
     by_cases h2 : x = 0
     ·subst h2
      have HV : Hid (lefV 0 false true 0 = (if false = true then 2 else if true = true then 1 else 0)) := rfl
      clear g1 h1
      go_enter Tryz.func163, Tryz.ntmps163
      go_wp2_with fail
      go_ret
      exact ⟨by rw [HV.out]; first | rfl | (simp; done) | (simp; omega), HW.out _⟩
     ·have g2 : (x == 0) = false := by simp [h2]
      have HV : Hid (lefV x false true 0 = (if false = true then 2 else 1)) := by show _ = _; simp [lefV, h1, h2]
      go_enter Tryz.func163, Tryz.ntmps163
      go_wp2_with fail
      go_ret
      exact ⟨by rw [HV.out]; first | rfl | (simp; done) | (simp; omega), HW.out _⟩
   ·have g0 : (0 : Int) < (t : Int) := by omega
    by_cases h1 : x = 1
    ·subst h1
     have HV : Hid (lefV 1 false true t = 5 * t - (if true = true then 1 else 2)) := by show _ = _; simp [lefV, h0]
     go_enter Tryz.func163, Tryz.ntmps163
     go_wp2_with fail
     go_ret
     exact ⟨by rw [HV.out]; first | rfl | (simp; done) | (simp; omega), HW.out _⟩
    ·have g1 : (x == 1) = false := by simp [h1]
     by_cases h2 : x = 0
     ·subst h2
      have HV : Hid (lefV 0 false true t = 5 * t + (if true = true then -1 else if false = true then 2 else 0)) := by show _ = _; simp [lefV, h0]; try omega
      clear g1 h1
      go_enter Tryz.func163, Tryz.ntmps163
      go_wp2_with fail
      go_ret
      exact ⟨by rw [HV.out]; first | rfl | (simp; done) | (simp; omega), HW.out _⟩
     ·have g2 : (x == 0) = false := by simp [h2]
      have HV : Hid (lefV x false true t = 5 * t + (if true = true then -1 else if false = true then 2 else 1)) := by show _ = _; simp [lefV, h0, h1, h2]; try omega
      go_enter Tryz.func163, Tryz.ntmps163
      go_wp2_with fail
      go_ret
      exact ⟨by rw [HV.out]; first | rfl | (simp; done) | (simp; omega), HW.out _⟩
  ·rcases Nat.eq_zero_or_pos t with h0 | h0
   ·subst h0
    by_cases h1 : x = 1
    ·subst h1
     have HV : Hid (lefV 1 true false 0 = (if true = true then 2 else 1)) := rfl
     go_enter Tryz.func163, Tryz.ntmps163
     go_wp2_with fail
     go_ret
     exact ⟨by rw [HV.out]; first | rfl | (simp; done) | (simp; omega), HW.out _⟩
    ·have g1 : (x == 1) = false := by simp [h1]
     by_cases h2 : x = 0
     ·subst h2
      have HV : Hid (lefV 0 true false 0 = (if true = true then 2 else if false = true then 1 else 0)) := rfl
      clear g1 h1
      go_enter Tryz.func163, Tryz.ntmps163
      go_wp2_with fail
      go_ret
      exact ⟨by rw [HV.out]; first | rfl | (simp; done) | (simp; omega), HW.out _⟩
     ·have g2 : (x == 0) = false := by simp [h2]
      have HV : Hid (lefV x true false 0 = (if true = true then 2 else 1)) := by show _ = _; simp [lefV, h1, h2]
      go_enter Tryz.func163, Tryz.ntmps163
      go_wp2_with fail
      go_ret
      exact ⟨by rw [HV.out]; first | rfl | (simp; done) | (simp; omega), HW.out _⟩
   ·have g0 : (0 : Int) < (t : Int) := by omega
    by_cases h1 : x = 1
    ·subst h1
     have HV : Hid (lefV 1 true false t = 5 * t - (if false = true then 1 else 2)) := by show _ = _; simp [lefV, h0]
     go_enter Tryz.func163, Tryz.ntmps163
     go_wp2_with fail
     go_ret
     exact ⟨by rw [HV.out]; first | rfl | (simp; done) | (simp; omega), HW.out _⟩
    ·have g1 : (x == 1) = false := by simp [h1]
     by_cases h2 : x = 0
     ·subst h2
      have HV : Hid (lefV 0 true false t = 5 * t + (if false = true then -1 else if true = true then 2 else 0)) := by show _ = _; simp [lefV, h0]; try omega
      clear g1 h1
      go_enter Tryz.func163, Tryz.ntmps163
      go_wp2_with fail
      go_ret
      exact ⟨by rw [HV.out]; first | rfl | (simp; done) | (simp; omega), HW.out _⟩
     ·have g2 : (x == 0) = false := by simp [h2]
      have HV : Hid (lefV x true false t = 5 * t + (if false = true then -1 else if true = true then 2 else 1)) := by show _ = _; simp [lefV, h0, h1, h2]; try omega
      go_enter Tryz.func163, Tryz.ntmps163
      go_wp2_with fail
      go_ret
      exact ⟨by rw [HV.out]; first | rfl | (simp; done) | (simp; omega), HW.out _⟩
  ·rcases Nat.eq_zero_or_pos t with h0 | h0
   ·subst h0
    by_cases h1 : x = 1
    ·subst h1
     have HV : Hid (lefV 1 true true 0 = (if true = true then 2 else 1)) := rfl
     go_enter Tryz.func163, Tryz.ntmps163
     go_wp2_with fail
     go_ret
     exact ⟨by rw [HV.out]; first | rfl | (simp; done) | (simp; omega), HW.out _⟩
    ·have g1 : (x == 1) = false := by simp [h1]
     by_cases h2 : x = 0
     ·subst h2
      have HV : Hid (lefV 0 true true 0 = (if true = true then 2 else if true = true then 1 else 0)) := rfl
      clear g1 h1
      go_enter Tryz.func163, Tryz.ntmps163
      go_wp2_with fail
      go_ret
      exact ⟨by rw [HV.out]; first | rfl | (simp; done) | (simp; omega), HW.out _⟩
     ·have g2 : (x == 0) = false := by simp [h2]
      have HV : Hid (lefV x true true 0 = (if true = true then 2 else 1)) := by show _ = _; simp [lefV, h1, h2]
      go_enter Tryz.func163, Tryz.ntmps163
      go_wp2_with fail
      go_ret
      exact ⟨by rw [HV.out]; first | rfl | (simp; done) | (simp; omega), HW.out _⟩
   ·have g0 : (0 : Int) < (t : Int) := by omega
    by_cases h1 : x = 1
    ·subst h1
     have HV : Hid (lefV 1 true true t = 5 * t - (if true = true then 1 else 2)) := by show _ = _; simp [lefV, h0]
     go_enter Tryz.func163, Tryz.ntmps163
     go_wp2_with fail
     go_ret
     exact ⟨by rw [HV.out]; first | rfl | (simp; done) | (simp; omega), HW.out _⟩
    ·have g1 : (x == 1) = false := by simp [h1]
     by_cases h2 : x = 0
     ·subst h2
      have HV : Hid (lefV 0 true true t = 5 * t + (if true = true then -1 else if true = true then 2 else 0)) := by show _ = _; simp [lefV, h0]; try omega
      clear g1 h1
      go_enter Tryz.func163, Tryz.ntmps163
      go_wp2_with fail
      go_ret
      exact ⟨by rw [HV.out]; first | rfl | (simp; done) | (simp; omega), HW.out _⟩
     ·have g2 : (x == 0) = false := by simp [h2]
      have HV : Hid (lefV x true true t = 5 * t + (if true = true then -1 else if true = true then 2 else 1)) := by show _ = _; simp [lefV, h0, h1, h2]; try omega
      go_enter Tryz.func163, Tryz.ntmps163
      go_wp2_with fail
      go_ret
      exact ⟨by rw [HV.out]; first | rfl | (simp; done) | (simp; omega), HW.out _⟩
def bkF (N : Nat → Int) (I O : Nat → Bool) (i : Nat) : Value :=
 if i % 3 = 0 then .int .i64 (N (i / 3)) else if i % 3 = 1 then .bool (I (i / 3)) else .bool (O (i / 3))
theorem elBk : Elem Tryz.prog 28 76 (.agg #[.int .i64 0, .bool false, .bool false]) 3 16 := ⟨Tryz.underlying28, by kernel_rfl, rfl, by decide⟩
theorem elBks : Elem Tryz.prog 193 76 (.agg #[.int .i64 0, .bool false, .bool false]) 3 16 := ⟨Tryz.underlying193, by kernel_rfl, rfl, by decide⟩
theorem bkF_one (N : Nat → Int) (I O : Nat → Bool) (i : Nat) : (bkF N I O i).oneCell' = true := by
 unfold bkF
 split
 ·rfl
 ·split <;> rfl
theorem bk_new {w : World} {b off n : Nat} {N : Nat → Int} {I O : Nat → Bool} (h : BkC w b off n N I O) : ∀ j, j < n * 3 → w.cell? ((⟨b, off, none⟩ : Addr).add j) = some (bkF N I O (0 * 3 + j)) := by
 intro j hj
 obtain ⟨h0, h1, h2⟩ := h (j / 3) (by omega)
 rw [addr_add, Nat.zero_mul, Nat.zero_add]
 unfold bkF
 by_cases e0 : j % 3 = 0
 ·rw [if_pos e0, ← h0, show off + j / 3 * 3 = off + j by omega]
 ·rw [if_neg e0]
  by_cases e1 : j % 3 = 1
  ·rw [if_pos e1, ← h1, show off + j / 3 * 3 + 1 = off + j by omega]
  ·rw [if_neg e1, ← h2, show off + j / 3 * 3 + 2 = off + j by omega]
theorem BkC.of_own {w : World} {g cap n : Nat} {N : Nat → Int} {I O : Nat → Bool} {t : TypeId} (h : Own w g cap n 3 t (bkF N I O)) : BkC w g 0 n N I O := fun k hk => by
 have h0 := h.cell (i := k * 3) (by omega)
 have h1 := h.cell (i := k * 3 + 1) (by omega)
 have h2 := h.cell (i := k * 3 + 2) (by omega)
 rw [Nat.zero_add]
 refine ⟨?_, ?_, ?_⟩
 ·rw [h0]; unfold bkF; rw [if_pos (by omega), show k * 3 / 3 = k by omega]
 ·rw [h1]; unfold bkF; rw [if_neg (by omega), if_pos (by omega), show (k * 3 + 1) / 3 = k by omega]
 ·rw [h2]; unfold bkF; rw [if_neg (by omega), if_neg (by omega), show (k * 3 + 2) / 3 = k by omega]
theorem cloneB_any (b off n c : Nat) (N : Nat → Int) (I O : Nat → Bool) (w : World) (hn : n ≤ 1000000000000) (hc : BkC w b off n N I O) :
    Calls Tryz.prog 157 #[.slice (some ⟨b, off, none⟩) n c] w fun e w' => ∃ g c', e = .returned (.slice (some ⟨g, 0, none⟩) n c') ∧ w.heap.size ≤ g ∧ Own w' g c' n 3 76 (bkF N I O) ∧ Below w.heap.size w w' := by
  have hnil := fun w => Lib.run_eql_slice_nil (P := Tryz.prog) w 28 76 (some ⟨b, off, none⟩) n c 0 0 Tryz.underlying28
  have hbb : ∀ a, Below w.heap.size w (w.alloc a) := fun a => (Below.refl _ _).alloc (Nat.le_refl _) _
  have hb : b < w.heap.size ∨ n = 0 := by
   rcases Nat.eq_zero_or_pos n with h | h
   ·exact Or.inr h
   ·exact Or.inl (World.block_lt_of_cell? w ⟨b, off + 0 * 3, none⟩ (hc 0 h).1)
  have HC : Hid (∀ a, BkC (w.alloc a) b off n N I O) := fun a => by
   rcases hb with hb | hb
   ·exact hc.below (hbb a) hb
   ·intro k hk; omega
  clear hc hb
  go_enter Tryz.func157, Tryz.ntmps157
  go_wp2_with (at_builtin; refine wpList_app elBk rfl (.tmp 5) (.tmp 6) rfl (own_empty w 3 _ (bkF N I O)) rfl ⟨b, off, none⟩ n c rfl (bk_new (HC.out _)) (fun _ _ => bkF_one _ _ _ _) (by unfold maxLen; omega) (by omega) ?_; intro g' c' wa HA hgr hd)
  have z := hgr.size
  rw [World.size_alloc] at z hd
  have hle : w.heap.size ≤ g' := by omega
  have hbl := (hbb (.cells #[] 76)).trans (below_of_grown hgr (Nat.le_refl _) (by simp))
  rw [Nat.zero_add] at HA
  have HO := Lib.hid HA
  have HBL := Lib.hid hbl
  clear HA hbl hgr hd
  go_wp2_with fail
  go_ret
  exact ⟨g', c', by simp, hle, HO.out, HBL.out⟩
theorem cloneBs_any (b off n c : Nat) (N : Nat → Int) (I O : Nat → Bool) (w : World) (hn : n ≤ 1000000000000) (hc : BkC w b off n N I O) :
    Calls Tryz.prog 164 #[.slice (some ⟨b, off, none⟩) n c] w fun e w' => ∃ g c', e = .returned (.slice (some ⟨g, 0, none⟩) n c') ∧ w.heap.size ≤ g ∧ Own w' g c' n 3 76 (bkF N I O) ∧ Below w.heap.size w w' := by
  have hnil := fun w => Lib.run_eql_slice_nil (P := Tryz.prog) w 193 76 (some ⟨b, off, none⟩) n c 0 0 Tryz.underlying193
  have hbb : ∀ a, Below w.heap.size w (w.alloc a) := fun a => (Below.refl _ _).alloc (Nat.le_refl _) _
  have hb : b < w.heap.size ∨ n = 0 := by
   rcases Nat.eq_zero_or_pos n with h | h
   ·exact Or.inr h
   ·exact Or.inl (World.block_lt_of_cell? w ⟨b, off + 0 * 3, none⟩ (hc 0 h).1)
  have HC : Hid (∀ a, BkC (w.alloc a) b off n N I O) := fun a => by
   rcases hb with hb | hb
   ·exact hc.below (hbb a) hb
   ·intro k hk; omega
  clear hc hb
  go_enter Tryz.func164, Tryz.ntmps164
  go_wp2_with (at_builtin; refine wpList_app elBks rfl (.tmp 5) (.tmp 6) rfl (own_empty w 3 _ (bkF N I O)) rfl ⟨b, off, none⟩ n c rfl (bk_new (HC.out _)) (fun _ _ => bkF_one _ _ _ _) (by unfold maxLen; omega) (by omega) ?_; intro g' c' wa HA hgr hd)
  have z := hgr.size
  rw [World.size_alloc] at z hd
  have hle : w.heap.size ≤ g' := by omega
  have hbl := (hbb (.cells #[] 76)).trans (below_of_grown hgr (Nat.le_refl _) (by simp))
  rw [Nat.zero_add] at HA
  have HO := Lib.hid HA
  have HBL := Lib.hid hbl
  clear HA hbl hgr hd
  go_wp2_with fail
  go_ret
  exact ⟨g', c', by simp, hle, HO.out, HBL.out⟩
structure Ln where
  n : Nat
  N : Nat → Int
  I : Nat → Bool
  O : Nat → Bool
  m : Nat
  T : Nat → Int
def trOk (x : Ln) (i : Nat) : Bool := inB (x.T i) 0 (2 * x.n) && (decide (i = 0) || decide (x.T i ≤ x.T (i - 1)))
def cnOk (x : Ln) (k : Nat) : Bool := decide (cntA x.T (2 * k + 1) x.m = if x.I k = true then 1 else 0)
def vldL (x : Ln) : Bool := inB x.n 1 5 && (decide (x.m ≤ 5) && (allB x.n (posB x.N x.I x.O) && (allB x.m (trOk x) && allB x.n (cnOk x))))
theorem vldL_true {x : Ln} (h : vldL x = true) : 1 ≤ x.n ∧ x.n ≤ 5 ∧ x.m ≤ 5 ∧ (∀ k, k < x.n → posB x.N x.I x.O k = true) ∧ (∀ i, i < x.m → trOk x i = true) ∧ (∀ k, k < x.n → cnOk x k = true) := by
 simp only [vldL, Bool.and_eq_true, inB_true, decide_eq_true_eq, allB_true] at h
 obtain ⟨⟨h1, h2⟩, h3, h4, h5, h6⟩ := h
 exact ⟨by omega, by omega, h3, h4, h5, h6⟩
theorem vldL_sec {x : Ln} (h : inB x.n 1 5 = false) : vldL x = false := by simp [vldL, h]
theorem vldL_many {x : Ln} (h : ¬ x.m ≤ 5) : vldL x = false := by simp [vldL, h]
theorem vldL_pos {x : Ln} (h : allB x.n (posB x.N x.I x.O) = false) : vldL x = false := by simp [vldL, h]
theorem vldL_tr {x : Ln} {i : Nat} (hi : i < x.m) (h : trOk x i = false) : vldL x = false := by simp [vldL, allB_not hi h]
theorem vldL_cn {x : Ln} {k : Nat} (hk : k < x.n) (h : cnOk x k = false) : vldL x = false := by simp [vldL, allB_not hk h]
theorem vldL_po {x : Ln} {k : Nat} (hk : k < x.n) (h : posB x.N x.I x.O k = false) : vldL x = false := vldL_pos (allB_not hk h)
theorem vldL_of {x : Ln} (h1 : inB x.n 1 5 = true) (h2 : x.m ≤ 5) (h3 : ∀ k, k < x.n → posB x.N x.I x.O k = true) (h4 : ∀ i, i < x.m → trOk x i = true) (h5 : ∀ k, k < x.n → cnOk x k = true) : vldL x = true := by
 simp [vldL, h1, h2, allB_of h3, allB_of h4, allB_of h5]
def fstA (f : Nat → Int) (p : Int) : Nat → Nat
  | 0 => 0
  | m + 1 => if fstA f p m < m then fstA f p m else if f m = p then m else m + 1
theorem fstA_le (f : Nat → Int) (p : Int) : ∀ m, fstA f p m ≤ m
  | 0 => Nat.le_refl _
  | m + 1 => by
   have := fstA_le f p m
   simp only [fstA]
   split
   ·omega
   ·split <;> omega
theorem fstA_at (f : Nat → Int) (p : Int) : ∀ m, fstA f p m < m → f (fstA f p m) = p
  | 0, h => by omega
  | m + 1, h => by
   have ih := fstA_at f p m
   simp only [fstA] at h ⊢
   split
   ·rename_i h1; exact ih h1
   ·rename_i h1
    rw [if_neg h1] at h
    split
    ·rename_i h2; exact h2
    ·rename_i h2; rw [if_neg h2] at h; omega
theorem fstA_none (f : Nat → Int) (p : Int) : ∀ m, (∀ j, j < m → f j ≠ p) → fstA f p m = m
  | 0, _ => rfl
  | m + 1, h => by
   have ih := fstA_none f p m (fun j hj => h j (by omega))
   simp only [fstA, ih, Nat.lt_irrefl, if_false, h m (by omega)]
theorem fstA_stop (f : Nat → Int) (p : Int) {k : Nat} (h : ∀ j, j < k → f j ≠ p) (hk : f k = p) : ∀ m, k < m → fstA f p m = k
  | 0, hm => by omega
  | m + 1, hm => by
   rcases Nat.lt_or_ge k m with h1 | h1
   ·have ih := fstA_stop f p h hk m h1
    simp only [fstA, ih, h1, if_true]
   ·obtain rfl : k = m := by omega
    simp only [fstA, fstA_none f p k h, Nat.lt_irrefl, if_false, hk, if_true]
def eB (l : ByteArray) : Bool := decide (l = chr 101)
def lB (l : ByteArray) : Bool := decide (l = chr 108)
def plI (s : Int) (l : ByteArray) : Int := if eB l = true then 2 * s else if lB l = true then 2 * s + 1 else -1
def mvJ (x : Ln) (s : Int) (l : ByteArray) : Nat := bsI (x.N s.toNat) (x.I s.toNat) (x.O s.toNat) l
def mvOk (x : Ln) (s : Int) (l : ByteArray) : Bool := inB s 0 (x.n - 1) && (decide (mvJ x s l < 5) && (!(eB l || lB l) || decide (fstA x.T (plI s l) x.m < x.m)))
def mvTo (x : Ln) (s : Int) (l : ByteArray) : Ln :=
 { n := x.n, N := upd x.N s.toNat (stB (mvJ x s l)).n, I := upd x.I s.toNat (stB (mvJ x s l)).i, O := upd x.O s.toNat (stB (mvJ x s l)).o, m := x.m,
   T := if (eB l || lB l) = true then upd x.T (fstA x.T (plI s l) x.m) (plI s l + 1) else x.T }
def stepO (x : Ln) (s : Int) (l : ByteArray) : Option Ln := if mvOk x s l = true then some (mvTo x s l) else none
def runO (x : Ln) (M : Nat → Int) (L : Nat → ByteArray) : Nat → Option Ln
  | 0 => some x
  | k + 1 => (runO x M L k).bind fun y => stepO y (M k) (L k)
theorem runO_none {x : Ln} {M : Nat → Int} {L : Nat → ByteArray} {k : Nat} (h : runO x M L k = none) : ∀ q, k ≤ q → runO x M L q = none := by
 intro q hq
 induction q with
 | zero => obtain rfl : k = 0 := by omega
           exact h
 | succ q ih =>
  rcases Nat.lt_or_ge k (q + 1) with h1 | h1
  ·simp only [runO, ih (by omega), Option.bind_none]
  ·obtain rfl : k = q + 1 := by omega
   exact h
theorem stepO_nm {x y : Ln} {s : Int} {l : ByteArray} (h : stepO x s l = some y) : y.n = x.n ∧ y.m = x.m := by
 unfold stepO at h
 split at h
 ·cases h; exact ⟨rfl, rfl⟩
 ·cases h
theorem runO_nm {x : Ln} {M : Nat → Int} {L : Nat → ByteArray} : ∀ {k : Nat} {y : Ln}, runO x M L k = some y → y.n = x.n ∧ y.m = x.m
  | 0, y, h => by cases h; exact ⟨rfl, rfl⟩
  | k + 1, y, h => by
   simp only [runO] at h
   cases e : runO x M L k with
   | none => rw [e] at h; cases h
   | some z =>
    rw [e] at h
    have h1 := stepO_nm (x := z) (s := M k) (l := L k) h
    have h2 := runO_nm e
    exact ⟨h1.1.trans h2.1, h1.2.trans h2.2⟩
end Go.Proofs.YtlkdmpfifpkpaaaGreatDoor

