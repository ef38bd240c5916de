/-
  Parts of the proof of fnExecuteBook_proved: Bu Bv Kc. No condition.
-/
import Derived.Laws.BitsAllLaws
import Derived.WalkKit
import Derived.WalkSpells
import Derived.WalkLawsBesides
import Derived.Lib.Hide
import Derived.BigQuiet
import Derived.Deep.QuietTactic
import Derived.Deep.RegionHeld3
import Derived.Deep.DeepFit
import Derived.Deep.RegionWith
import Derived.Test.YtlkdmpfifpkpaaaGreatDoorChecked
import Derived.Lib.Strings
import Derived.Test.YtlkdmpfifpkpaaaGreatDoorQ01
import Derived.Test.YtlkdmpfifpkpaaaGreatDoorQ02
namespace Go.Proofs.YtlkdmpfifpkpaaaGreatDoor
open Go.RowKit

/-- the block of a state -/
def bkA (k : Nat) : Value := .agg #[.int .i64 (stB k).n, .bool (stB k).i, .bool (stB k).o]
/-- the block behind a step: the zero block where there is none -/
def bsV (k : Nat) : Value := if k < 5 then bkA k else .agg #[.int .i64 0, .bool false, .bool false]
theorem stI_B {n : Int} {i o : Bool} {k : Nat} (h : stI n i o = k) (hk : k < 5) : n = (stB k).n ∧ i = (stB k).i ∧ o = (stB k).o := by
  have key : ∀ j, bkE j n i o = true → n = (stB j).n ∧ i = (stB j).i ∧ o = (stB j).o := fun j hj => by
    simp only [bkE, Bool.and_eq_true, decide_eq_true_eq] at hj
    exact ⟨hj.1.symm, hj.2.1.symm, hj.2.2.symm⟩
  unfold stI at h
  split at h
  · subst h; exact key _ (by assumption)
  · split at h
    · subst h; exact key _ (by assumption)
    · split at h
      · subst h; exact key _ (by assumption)
      · split at h
        · subst h; exact key _ (by assumption)
        · split at h
          · subst h; exact key _ (by assumption)
          · omega
theorem stI_stB {k : Nat} (hk : k < 5) : stI (stB k).n (stB k).i (stB k).o = k := by
  have h5 : k = 0 ∨ k = 1 ∨ k = 2 ∨ k = 3 ∨ k = 4 := by omega
  rcases h5 with rfl | rfl | rfl | rfl | rfl <;> rfl
set_option linter.unusedSimpArgs false in
set_option maxRecDepth 100000 in
set_option maxHeartbeats 8000000 in
theorem l3Step_any (k : Nat) (c : Int) (w : World) (hk : k < 5) :
    Calls Tryz.prog 69 #[bkA k, .int .u8 c] w fun e w' => e = .returned (.tuple #[bsV (nx k c), .bool (decide (nx k c < 5))]) ∧ Below w.heap.size w w' := by
  have HBB : Hid (∀ a b, Below w.heap.size w ((w.alloc a).alloc b)) := fun a b => ((Below.refl _ _).alloc (Nat.le_refl _) _).alloc (by simp) _
  have h5 : k = 0 ∨ k = 1 ∨ k = 2 ∨ k = 3 ∨ k = 4 := by omega
  rcases h5 with rfl | rfl | rfl | rfl | rfl
  · show Calls Tryz.prog 69 #[.agg #[.int .i64 0, .bool false, .bool false], .int .u8 c] w _
    by_cases h0 : c = 111
    · subst h0
      have HJ : Hid (nx 0 111 = 1) := rfl
      go_enter Tryz.func69, Tryz.ntmps69
      go_wp2_with fail
      exact bodyPost_ret (v := .tuple #[.agg #[.int .i64 0, .bool false, .bool true], .bool true]) (by simp [results, Tryz.results69, go_sem]) rfl ⟨by rw [HJ.out]; rfl, by
        have h0 := HBB.out
        repeat (with_reducible first | exact h0 _ _ | refine Below.setCell ?_ (by dsimp only; omega) _)⟩
    have g0 : (c == 111) = false := by simp [h0]
    by_cases h1 : c = 114
    · subst h1
      have HJ : Hid (nx 0 114 = 5) := rfl
      clear h0 g0
      go_enter Tryz.func69, Tryz.ntmps69
      go_wp2_with fail
      exact bodyPost_ret (v := .tuple #[.agg #[.int .i64 0, .bool false, .bool false], .bool false]) (by simp [results, Tryz.results69, go_sem]) rfl ⟨by rw [HJ.out]; rfl, by
        have h0 := HBB.out
        repeat (with_reducible first | exact h0 _ _ | refine Below.setCell ?_ (by dsimp only; omega) _)⟩
    have g1 : (c == 114) = false := by simp [h1]
    by_cases h2 : c = 97
    · subst h2
      have HJ : Hid (nx 0 97 = 5) := rfl
      clear h0 h1 g0 g1
      go_enter Tryz.func69, Tryz.ntmps69
      go_wp2_with fail
      exact bodyPost_ret (v := .tuple #[.agg #[.int .i64 0, .bool false, .bool false], .bool false]) (by simp [results, Tryz.results69, go_sem]) rfl ⟨by rw [HJ.out]; rfl, by
        have h0 := HBB.out
        repeat (with_reducible first | exact h0 _ _ | refine Below.setCell ?_ (by dsimp only; omega) _)⟩
    have g2 : (c == 97) = false := by simp [h2]
    by_cases h3 : c = 99
    · subst h3
      have HJ : Hid (nx 0 99 = 5) := rfl
      clear h0 h1 h2 g0 g1 g2
      go_enter Tryz.func69, Tryz.ntmps69
      go_wp2_with fail
      exact bodyPost_ret (v := .tuple #[.agg #[.int .i64 0, .bool false, .bool false], .bool false]) (by simp [results, Tryz.results69, go_sem]) rfl ⟨by rw [HJ.out]; rfl, by
        have h0 := HBB.out
        repeat (with_reducible first | exact h0 _ _ | refine Below.setCell ?_ (by dsimp only; omega) _)⟩
    have g3 : (c == 99) = false := by simp [h3]
    by_cases h4 : c = 101
    · subst h4
      have HJ : Hid (nx 0 101 = 5) := rfl
      clear h0 h1 h2 h3 g0 g1 g2 g3
      go_enter Tryz.func69, Tryz.ntmps69
      go_wp2_with fail
      exact bodyPost_ret (v := .tuple #[.agg #[.int .i64 0, .bool false, .bool false], .bool false]) (by simp [results, Tryz.results69, go_sem]) rfl ⟨by rw [HJ.out]; rfl, by
        have h0 := HBB.out
        repeat (with_reducible first | exact h0 _ _ | refine Below.setCell ?_ (by dsimp only; omega) _)⟩
    have g4 : (c == 101) = false := by simp [h4]
    by_cases h5 : c = 108
    · subst h5
      have HJ : Hid (nx 0 108 = 5) := rfl
      clear h0 h1 h2 h3 h4 g0 g1 g2 g3 g4
      go_enter Tryz.func69, Tryz.ntmps69
      go_wp2_with fail
      exact bodyPost_ret (v := .tuple #[.agg #[.int .i64 0, .bool false, .bool false], .bool false]) (by simp [results, Tryz.results69, go_sem]) rfl ⟨by rw [HJ.out]; rfl, by
        have h0 := HBB.out
        repeat (with_reducible first | exact h0 _ _ | refine Below.setCell ?_ (by dsimp only; omega) _)⟩
    have g5 : (c == 108) = false := by simp [h5]
    by_cases h6 : c = 102
    · subst h6
      have HJ : Hid (nx 0 102 = 5) := rfl
      clear h0 h1 h2 h3 h4 h5 g0 g1 g2 g3 g4 g5
      go_enter Tryz.func69, Tryz.ntmps69
      go_wp2_with fail
      exact bodyPost_ret (v := .tuple #[.agg #[.int .i64 0, .bool false, .bool false], .bool false]) (by simp [results, Tryz.results69, go_sem]) rfl ⟨by rw [HJ.out]; rfl, by
        have h0 := HBB.out
        repeat (with_reducible first | exact h0 _ _ | refine Below.setCell ?_ (by dsimp only; omega) _)⟩
    have g6 : (c == 102) = false := by simp [h6]
    have HJ : Hid (nx 0 c = 5) := by show _ = _; simp [nx, h0, h1, h2, h3, h4, h5, h6]
    clear h0 h1 h2 h3 h4 h5 h6
    go_enter Tryz.func69, Tryz.ntmps69
    go_wp2_with fail
    exact bodyPost_ret (v := .tuple #[.agg #[.int .i64 0, .bool false, .bool false], .bool false]) (by simp [results, Tryz.results69, go_sem]) rfl ⟨by rw [HJ.out]; rfl, by
      have h0 := HBB.out
      repeat (with_reducible first | exact h0 _ _ | refine Below.setCell ?_ (by dsimp only; omega) _)⟩
  · show Calls Tryz.prog 69 #[.agg #[.int .i64 0, .bool false, .bool true], .int .u8 c] w _
    by_cases h0 : c = 111
    · subst h0
      have HJ : Hid (nx 1 111 = 5) := rfl
      go_enter Tryz.func69, Tryz.ntmps69
      go_wp2_with fail
      exact bodyPost_ret (v := .tuple #[.agg #[.int .i64 0, .bool false, .bool false], .bool false]) (by simp [results, Tryz.results69, go_sem]) rfl ⟨by rw [HJ.out]; rfl, by
        have h0 := HBB.out
        repeat (with_reducible first | exact h0 _ _ | refine Below.setCell ?_ (by dsimp only; omega) _)⟩
    have g0 : (c == 111) = false := by simp [h0]
    by_cases h1 : c = 114
    · subst h1
      have HJ : Hid (nx 1 114 = 0) := rfl
      clear h0 g0
      go_enter Tryz.func69, Tryz.ntmps69
      go_wp2_with fail
      exact bodyPost_ret (v := .tuple #[.agg #[.int .i64 0, .bool false, .bool false], .bool true]) (by simp [results, Tryz.results69, go_sem]) rfl ⟨by rw [HJ.out]; rfl, by
        have h0 := HBB.out
        repeat (with_reducible first | exact h0 _ _ | refine Below.setCell ?_ (by dsimp only; omega) _)⟩
    have g1 : (c == 114) = false := by simp [h1]
    by_cases h2 : c = 97
    · subst h2
      have HJ : Hid (nx 1 97 = 2) := rfl
      clear h0 h1 g0 g1
      go_enter Tryz.func69, Tryz.ntmps69
      go_wp2_with fail
      exact bodyPost_ret (v := .tuple #[.agg #[.int .i64 1, .bool false, .bool false], .bool true]) (by simp [results, Tryz.results69, go_sem]) rfl ⟨by rw [HJ.out]; rfl, by
        have h0 := HBB.out
        repeat (with_reducible first | exact h0 _ _ | refine Below.setCell ?_ (by dsimp only; omega) _)⟩
    have g2 : (c == 97) = false := by simp [h2]
    by_cases h3 : c = 99
    · subst h3
      have HJ : Hid (nx 1 99 = 5) := rfl
      clear h0 h1 h2 g0 g1 g2
      go_enter Tryz.func69, Tryz.ntmps69
      go_wp2_with fail
      exact bodyPost_ret (v := .tuple #[.agg #[.int .i64 0, .bool false, .bool false], .bool false]) (by simp [results, Tryz.results69, go_sem]) rfl ⟨by rw [HJ.out]; rfl, by
        have h0 := HBB.out
        repeat (with_reducible first | exact h0 _ _ | refine Below.setCell ?_ (by dsimp only; omega) _)⟩
    have g3 : (c == 99) = false := by simp [h3]
    by_cases h4 : c = 101
    · subst h4
      have HJ : Hid (nx 1 101 = 5) := rfl
      clear h0 h1 h2 h3 g0 g1 g2 g3
      go_enter Tryz.func69, Tryz.ntmps69
      go_wp2_with fail
      exact bodyPost_ret (v := .tuple #[.agg #[.int .i64 0, .bool false, .bool false], .bool false]) (by simp [results, Tryz.results69, go_sem]) rfl ⟨by rw [HJ.out]; rfl, by
        have h0 := HBB.out
        repeat (with_reducible first | exact h0 _ _ | refine Below.setCell ?_ (by dsimp only; omega) _)⟩
    have g4 : (c == 101) = false := by simp [h4]
    by_cases h5 : c = 108
    · subst h5
      have HJ : Hid (nx 1 108 = 5) := rfl
      clear h0 h1 h2 h3 h4 g0 g1 g2 g3 g4
      go_enter Tryz.func69, Tryz.ntmps69
      go_wp2_with fail
      exact bodyPost_ret (v := .tuple #[.agg #[.int .i64 0, .bool false, .bool false], .bool false]) (by simp [results, Tryz.results69, go_sem]) rfl ⟨by rw [HJ.out]; rfl, by
        have h0 := HBB.out
        repeat (with_reducible first | exact h0 _ _ | refine Below.setCell ?_ (by dsimp only; omega) _)⟩
    have g5 : (c == 108) = false := by simp [h5]
    by_cases h6 : c = 102
    · subst h6
      have HJ : Hid (nx 1 102 = 5) := rfl
      clear h0 h1 h2 h3 h4 h5 g0 g1 g2 g3 g4 g5
      go_enter Tryz.func69, Tryz.ntmps69
      go_wp2_with fail
      exact bodyPost_ret (v := .tuple #[.agg #[.int .i64 0, .bool false, .bool false], .bool false]) (by simp [results, Tryz.results69, go_sem]) rfl ⟨by rw [HJ.out]; rfl, by
        have h0 := HBB.out
        repeat (with_reducible first | exact h0 _ _ | refine Below.setCell ?_ (by dsimp only; omega) _)⟩
    have g6 : (c == 102) = false := by simp [h6]
    have HJ : Hid (nx 1 c = 5) := by show _ = _; simp [nx, h0, h1, h2, h3, h4, h5, h6]
    clear h0 h1 h2 h3 h4 h5 h6
    go_enter Tryz.func69, Tryz.ntmps69
    go_wp2_with fail
    exact bodyPost_ret (v := .tuple #[.agg #[.int .i64 0, .bool false, .bool false], .bool false]) (by simp [results, Tryz.results69, go_sem]) rfl ⟨by rw [HJ.out]; rfl, by
      have h0 := HBB.out
      repeat (with_reducible first | exact h0 _ _ | refine Below.setCell ?_ (by dsimp only; omega) _)⟩
  · show Calls Tryz.prog 69 #[.agg #[.int .i64 1, .bool false, .bool false], .int .u8 c] w _
    by_cases h0 : c = 111
    · subst h0
      have HJ : Hid (nx 2 111 = 5) := rfl
      go_enter Tryz.func69, Tryz.ntmps69
      go_wp2_with fail
      exact bodyPost_ret (v := .tuple #[.agg #[.int .i64 0, .bool false, .bool false], .bool false]) (by simp [results, Tryz.results69, go_sem]) rfl ⟨by rw [HJ.out]; rfl, by
        have h0 := HBB.out
        repeat (with_reducible first | exact h0 _ _ | refine Below.setCell ?_ (by dsimp only; omega) _)⟩
    have g0 : (c == 111) = false := by simp [h0]
    by_cases h1 : c = 114
    · subst h1
      have HJ : Hid (nx 2 114 = 5) := rfl
      clear h0 g0
      go_enter Tryz.func69, Tryz.ntmps69
      go_wp2_with fail
      exact bodyPost_ret (v := .tuple #[.agg #[.int .i64 0, .bool false, .bool false], .bool false]) (by simp [results, Tryz.results69, go_sem]) rfl ⟨by rw [HJ.out]; rfl, by
        have h0 := HBB.out
        repeat (with_reducible first | exact h0 _ _ | refine Below.setCell ?_ (by dsimp only; omega) _)⟩
    have g1 : (c == 114) = false := by simp [h1]
    by_cases h2 : c = 97
    · subst h2
      have HJ : Hid (nx 2 97 = 5) := rfl
      clear h0 h1 g0 g1
      go_enter Tryz.func69, Tryz.ntmps69
      go_wp2_with fail
      exact bodyPost_ret (v := .tuple #[.agg #[.int .i64 0, .bool false, .bool false], .bool false]) (by simp [results, Tryz.results69, go_sem]) rfl ⟨by rw [HJ.out]; rfl, by
        have h0 := HBB.out
        repeat (with_reducible first | exact h0 _ _ | refine Below.setCell ?_ (by dsimp only; omega) _)⟩
    have g2 : (c == 97) = false := by simp [h2]
    by_cases h3 : c = 99
    · subst h3
      have HJ : Hid (nx 2 99 = 0) := rfl
      clear h0 h1 h2 g0 g1 g2
      go_enter Tryz.func69, Tryz.ntmps69
      go_wp2_with fail
      exact bodyPost_ret (v := .tuple #[.agg #[.int .i64 0, .bool false, .bool false], .bool true]) (by simp [results, Tryz.results69, go_sem]) rfl ⟨by rw [HJ.out]; rfl, by
        have h0 := HBB.out
        repeat (with_reducible first | exact h0 _ _ | refine Below.setCell ?_ (by dsimp only; omega) _)⟩
    have g3 : (c == 99) = false := by simp [h3]
    by_cases h4 : c = 101
    · subst h4
      have HJ : Hid (nx 2 101 = 3) := rfl
      clear h0 h1 h2 h3 g0 g1 g2 g3
      go_enter Tryz.func69, Tryz.ntmps69
      go_wp2_with fail
      exact bodyPost_ret (v := .tuple #[.agg #[.int .i64 2, .bool true, .bool false], .bool true]) (by simp [results, Tryz.results69, go_sem]) rfl ⟨by rw [HJ.out]; rfl, by
        have h0 := HBB.out
        repeat (with_reducible first | exact h0 _ _ | refine Below.setCell ?_ (by dsimp only; omega) _)⟩
    have g4 : (c == 101) = false := by simp [h4]
    by_cases h5 : c = 108
    · subst h5
      have HJ : Hid (nx 2 108 = 5) := rfl
      clear h0 h1 h2 h3 h4 g0 g1 g2 g3 g4
      go_enter Tryz.func69, Tryz.ntmps69
      go_wp2_with fail
      exact bodyPost_ret (v := .tuple #[.agg #[.int .i64 0, .bool false, .bool false], .bool false]) (by simp [results, Tryz.results69, go_sem]) rfl ⟨by rw [HJ.out]; rfl, by
        have h0 := HBB.out
        repeat (with_reducible first | exact h0 _ _ | refine Below.setCell ?_ (by dsimp only; omega) _)⟩
    have g5 : (c == 108) = false := by simp [h5]
    by_cases h6 : c = 102
    · subst h6
      have HJ : Hid (nx 2 102 = 5) := rfl
      clear h0 h1 h2 h3 h4 h5 g0 g1 g2 g3 g4 g5
      go_enter Tryz.func69, Tryz.ntmps69
      go_wp2_with fail
      exact bodyPost_ret (v := .tuple #[.agg #[.int .i64 0, .bool false, .bool false], .bool false]) (by simp [results, Tryz.results69, go_sem]) rfl ⟨by rw [HJ.out]; rfl, by
        have h0 := HBB.out
        repeat (with_reducible first | exact h0 _ _ | refine Below.setCell ?_ (by dsimp only; omega) _)⟩
    have g6 : (c == 102) = false := by simp [h6]
    have HJ : Hid (nx 2 c = 5) := by show _ = _; simp [nx, h0, h1, h2, h3, h4, h5, h6]
    clear h0 h1 h2 h3 h4 h5 h6
    go_enter Tryz.func69, Tryz.ntmps69
    go_wp2_with fail
    exact bodyPost_ret (v := .tuple #[.agg #[.int .i64 0, .bool false, .bool false], .bool false]) (by simp [results, Tryz.results69, go_sem]) rfl ⟨by rw [HJ.out]; rfl, by
      have h0 := HBB.out
      repeat (with_reducible first | exact h0 _ _ | refine Below.setCell ?_ (by dsimp only; omega) _)⟩
  · show Calls Tryz.prog 69 #[.agg #[.int .i64 2, .bool true, .bool false], .int .u8 c] w _
    by_cases h0 : c = 111
    · subst h0
      have HJ : Hid (nx 3 111 = 5) := rfl
      go_enter Tryz.func69, Tryz.ntmps69
      go_wp2_with fail
      exact bodyPost_ret (v := .tuple #[.agg #[.int .i64 0, .bool false, .bool false], .bool false]) (by simp [results, Tryz.results69, go_sem]) rfl ⟨by rw [HJ.out]; rfl, by
        have h0 := HBB.out
        repeat (with_reducible first | exact h0 _ _ | refine Below.setCell ?_ (by dsimp only; omega) _)⟩
    have g0 : (c == 111) = false := by simp [h0]
    by_cases h1 : c = 114
    · subst h1
      have HJ : Hid (nx 3 114 = 5) := rfl
      clear h0 g0
      go_enter Tryz.func69, Tryz.ntmps69
      go_wp2_with fail
      exact bodyPost_ret (v := .tuple #[.agg #[.int .i64 0, .bool false, .bool false], .bool false]) (by simp [results, Tryz.results69, go_sem]) rfl ⟨by rw [HJ.out]; rfl, by
        have h0 := HBB.out
        repeat (with_reducible first | exact h0 _ _ | refine Below.setCell ?_ (by dsimp only; omega) _)⟩
    have g1 : (c == 114) = false := by simp [h1]
    by_cases h2 : c = 97
    · subst h2
      have HJ : Hid (nx 3 97 = 5) := rfl
      clear h0 h1 g0 g1
      go_enter Tryz.func69, Tryz.ntmps69
      go_wp2_with fail
      exact bodyPost_ret (v := .tuple #[.agg #[.int .i64 0, .bool false, .bool false], .bool false]) (by simp [results, Tryz.results69, go_sem]) rfl ⟨by rw [HJ.out]; rfl, by
        have h0 := HBB.out
        repeat (with_reducible first | exact h0 _ _ | refine Below.setCell ?_ (by dsimp only; omega) _)⟩
    have g2 : (c == 97) = false := by simp [h2]
    by_cases h3 : c = 99
    · subst h3
      have HJ : Hid (nx 3 99 = 5) := rfl
      clear h0 h1 h2 g0 g1 g2
      go_enter Tryz.func69, Tryz.ntmps69
      go_wp2_with fail
      exact bodyPost_ret (v := .tuple #[.agg #[.int .i64 0, .bool false, .bool false], .bool false]) (by simp [results, Tryz.results69, go_sem]) rfl ⟨by rw [HJ.out]; rfl, by
        have h0 := HBB.out
        repeat (with_reducible first | exact h0 _ _ | refine Below.setCell ?_ (by dsimp only; omega) _)⟩
    have g3 : (c == 99) = false := by simp [h3]
    by_cases h4 : c = 101
    · subst h4
      have HJ : Hid (nx 3 101 = 5) := rfl
      clear h0 h1 h2 h3 g0 g1 g2 g3
      go_enter Tryz.func69, Tryz.ntmps69
      go_wp2_with fail
      exact bodyPost_ret (v := .tuple #[.agg #[.int .i64 0, .bool false, .bool false], .bool false]) (by simp [results, Tryz.results69, go_sem]) rfl ⟨by rw [HJ.out]; rfl, by
        have h0 := HBB.out
        repeat (with_reducible first | exact h0 _ _ | refine Below.setCell ?_ (by dsimp only; omega) _)⟩
    have g4 : (c == 101) = false := by simp [h4]
    by_cases h5 : c = 108
    · subst h5
      have HJ : Hid (nx 3 108 = 4) := rfl
      clear h0 h1 h2 h3 h4 g0 g1 g2 g3 g4
      go_enter Tryz.func69, Tryz.ntmps69
      go_wp2_with fail
      exact bodyPost_ret (v := .tuple #[.agg #[.int .i64 2, .bool false, .bool false], .bool true]) (by simp [results, Tryz.results69, go_sem]) rfl ⟨by rw [HJ.out]; rfl, by
        have h0 := HBB.out
        repeat (with_reducible first | exact h0 _ _ | refine Below.setCell ?_ (by dsimp only; omega) _)⟩
    have g5 : (c == 108) = false := by simp [h5]
    by_cases h6 : c = 102
    · subst h6
      have HJ : Hid (nx 3 102 = 5) := rfl
      clear h0 h1 h2 h3 h4 h5 g0 g1 g2 g3 g4 g5
      go_enter Tryz.func69, Tryz.ntmps69
      go_wp2_with fail
      exact bodyPost_ret (v := .tuple #[.agg #[.int .i64 0, .bool false, .bool false], .bool false]) (by simp [results, Tryz.results69, go_sem]) rfl ⟨by rw [HJ.out]; rfl, by
        have h0 := HBB.out
        repeat (with_reducible first | exact h0 _ _ | refine Below.setCell ?_ (by dsimp only; omega) _)⟩
    have g6 : (c == 102) = false := by simp [h6]
    have HJ : Hid (nx 3 c = 5) := by show _ = _; simp [nx, h0, h1, h2, h3, h4, h5, h6]
    clear h0 h1 h2 h3 h4 h5 h6
    go_enter Tryz.func69, Tryz.ntmps69
    go_wp2_with fail
    exact bodyPost_ret (v := .tuple #[.agg #[.int .i64 0, .bool false, .bool false], .bool false]) (by simp [results, Tryz.results69, go_sem]) rfl ⟨by rw [HJ.out]; rfl, by
      have h0 := HBB.out
      repeat (with_reducible first | exact h0 _ _ | refine Below.setCell ?_ (by dsimp only; omega) _)⟩
  · show Calls Tryz.prog 69 #[.agg #[.int .i64 2, .bool false, .bool false], .int .u8 c] w _
    by_cases h0 : c = 111
    · subst h0
      have HJ : Hid (nx 4 111 = 5) := rfl
      go_enter Tryz.func69, Tryz.ntmps69
      go_wp2_with fail
      exact bodyPost_ret (v := .tuple #[.agg #[.int .i64 0, .bool false, .bool false], .bool false]) (by simp [results, Tryz.results69, go_sem]) rfl ⟨by rw [HJ.out]; rfl, by
        have h0 := HBB.out
        repeat (with_reducible first | exact h0 _ _ | refine Below.setCell ?_ (by dsimp only; omega) _)⟩
    have g0 : (c == 111) = false := by simp [h0]
    by_cases h1 : c = 114
    · subst h1
      have HJ : Hid (nx 4 114 = 5) := rfl
      clear h0 g0
      go_enter Tryz.func69, Tryz.ntmps69
      go_wp2_with fail
      exact bodyPost_ret (v := .tuple #[.agg #[.int .i64 0, .bool false, .bool false], .bool false]) (by simp [results, Tryz.results69, go_sem]) rfl ⟨by rw [HJ.out]; rfl, by
        have h0 := HBB.out
        repeat (with_reducible first | exact h0 _ _ | refine Below.setCell ?_ (by dsimp only; omega) _)⟩
    have g1 : (c == 114) = false := by simp [h1]
    by_cases h2 : c = 97
    · subst h2
      have HJ : Hid (nx 4 97 = 5) := rfl
      clear h0 h1 g0 g1
      go_enter Tryz.func69, Tryz.ntmps69
      go_wp2_with fail
      exact bodyPost_ret (v := .tuple #[.agg #[.int .i64 0, .bool false, .bool false], .bool false]) (by simp [results, Tryz.results69, go_sem]) rfl ⟨by rw [HJ.out]; rfl, by
        have h0 := HBB.out
        repeat (with_reducible first | exact h0 _ _ | refine Below.setCell ?_ (by dsimp only; omega) _)⟩
    have g2 : (c == 97) = false := by simp [h2]
    by_cases h3 : c = 99
    · subst h3
      have HJ : Hid (nx 4 99 = 5) := rfl
      clear h0 h1 h2 g0 g1 g2
      go_enter Tryz.func69, Tryz.ntmps69
      go_wp2_with fail
      exact bodyPost_ret (v := .tuple #[.agg #[.int .i64 0, .bool false, .bool false], .bool false]) (by simp [results, Tryz.results69, go_sem]) rfl ⟨by rw [HJ.out]; rfl, by
        have h0 := HBB.out
        repeat (with_reducible first | exact h0 _ _ | refine Below.setCell ?_ (by dsimp only; omega) _)⟩
    have g3 : (c == 99) = false := by simp [h3]
    by_cases h4 : c = 101
    · subst h4
      have HJ : Hid (nx 4 101 = 5) := rfl
      clear h0 h1 h2 h3 g0 g1 g2 g3
      go_enter Tryz.func69, Tryz.ntmps69
      go_wp2_with fail
      exact bodyPost_ret (v := .tuple #[.agg #[.int .i64 0, .bool false, .bool false], .bool false]) (by simp [results, Tryz.results69, go_sem]) rfl ⟨by rw [HJ.out]; rfl, by
        have h0 := HBB.out
        repeat (with_reducible first | exact h0 _ _ | refine Below.setCell ?_ (by dsimp only; omega) _)⟩
    have g4 : (c == 101) = false := by simp [h4]
    by_cases h5 : c = 108
    · subst h5
      have HJ : Hid (nx 4 108 = 5) := rfl
      clear h0 h1 h2 h3 h4 g0 g1 g2 g3 g4
      go_enter Tryz.func69, Tryz.ntmps69
      go_wp2_with fail
      exact bodyPost_ret (v := .tuple #[.agg #[.int .i64 0, .bool false, .bool false], .bool false]) (by simp [results, Tryz.results69, go_sem]) rfl ⟨by rw [HJ.out]; rfl, by
        have h0 := HBB.out
        repeat (with_reducible first | exact h0 _ _ | refine Below.setCell ?_ (by dsimp only; omega) _)⟩
    have g5 : (c == 108) = false := by simp [h5]
    by_cases h6 : c = 102
    · subst h6
      have HJ : Hid (nx 4 102 = 0) := rfl
      clear h0 h1 h2 h3 h4 h5 g0 g1 g2 g3 g4 g5
      go_enter Tryz.func69, Tryz.ntmps69
      go_wp2_with fail
      exact bodyPost_ret (v := .tuple #[.agg #[.int .i64 0, .bool false, .bool false], .bool true]) (by simp [results, Tryz.results69, go_sem]) rfl ⟨by rw [HJ.out]; rfl, by
        have h0 := HBB.out
        repeat (with_reducible first | exact h0 _ _ | refine Below.setCell ?_ (by dsimp only; omega) _)⟩
    have g6 : (c == 102) = false := by simp [h6]
    have HJ : Hid (nx 4 c = 5) := by show _ = _; simp [nx, h0, h1, h2, h3, h4, h5, h6]
    clear h0 h1 h2 h3 h4 h5 h6
    go_enter Tryz.func69, Tryz.ntmps69
    go_wp2_with fail
    exact bodyPost_ret (v := .tuple #[.agg #[.int .i64 0, .bool false, .bool false], .bool false]) (by simp [results, Tryz.results69, go_sem]) rfl ⟨by rw [HJ.out]; rfl, by
      have h0 := HBB.out
      repeat (with_reducible first | exact h0 _ _ | refine Below.setCell ?_ (by dsimp only; omega) _)⟩
end Go.Proofs.YtlkdmpfifpkpaaaGreatDoor
namespace Go.Proofs.YtlkdmpfifpkpaaaGreatDoor
open Go.RowKit

theorem specPossible_any (n : Int) (i o : Bool) (w : World) :
    Calls Tryz.prog 68 #[.agg #[.int .i64 n, .bool i, .bool o]] w fun e w' => e = .returned (.bool (decide (stI n i o < 5))) ∧ Below w.heap.size w w' := by
  have HBB : Hid (∀ a, Below w.heap.size w (w.alloc a)) := fun a => below_all _ _
  by_cases h0 : n = 0
  · subst h0
    have HI : Hid (inB 0 0 2 = true) := rfl
    cases i <;> cases o
    · have HV : Hid (decide (stI 0 false false < 5) = true) := rfl
      go_enter Tryz.func68, Tryz.ntmps68
      go_wp2_with fail
      refine (l6In_any _ _ _ _).mono ?_
      rintro e w' ⟨rfl, rfl⟩
      rw [HI.out]
      go_wp2_with fail
      go_ret
      exact ⟨by rw [HV.out]; rfl, HBB.out _⟩
    · have HV : Hid (decide (stI 0 false true < 5) = true) := rfl
      go_enter Tryz.func68, Tryz.ntmps68
      go_wp2_with fail
      refine (l6In_any _ _ _ _).mono ?_
      rintro e w' ⟨rfl, rfl⟩
      rw [HI.out]
      go_wp2_with fail
      go_ret
      exact ⟨by rw [HV.out]; rfl, HBB.out _⟩
    · have HV : Hid (decide (stI 0 true false < 5) = false) := rfl
      go_enter Tryz.func68, Tryz.ntmps68
      go_wp2_with fail
      refine (l6In_any _ _ _ _).mono ?_
      rintro e w' ⟨rfl, rfl⟩
      rw [HI.out]
      go_wp2_with fail
      go_ret
      exact ⟨by rw [HV.out]; rfl, HBB.out _⟩
    · have HV : Hid (decide (stI 0 true true < 5) = false) := rfl
      go_enter Tryz.func68, Tryz.ntmps68
      go_wp2_with fail
      refine (l6In_any _ _ _ _).mono ?_
      rintro e w' ⟨rfl, rfl⟩
      rw [HI.out]
      go_wp2_with fail
      go_ret
      exact ⟨by rw [HV.out]; rfl, HBB.out _⟩
  by_cases h1 : n = 1
  · subst h1
    have HI : Hid (inB 1 0 2 = true) := rfl
    clear h0
    cases i <;> cases o
    · have HV : Hid (decide (stI 1 false false < 5) = true) := rfl
      go_enter Tryz.func68, Tryz.ntmps68
      go_wp2_with fail
      refine (l6In_any _ _ _ _).mono ?_
      rintro e w' ⟨rfl, rfl⟩
      rw [HI.out]
      go_wp2_with fail
      go_ret
      exact ⟨by rw [HV.out]; rfl, HBB.out _⟩
    · have HV : Hid (decide (stI 1 false true < 5) = false) := rfl
      go_enter Tryz.func68, Tryz.ntmps68
      go_wp2_with fail
      refine (l6In_any _ _ _ _).mono ?_
      rintro e w' ⟨rfl, rfl⟩
      rw [HI.out]
      go_wp2_with fail
      go_ret
      exact ⟨by rw [HV.out]; rfl, HBB.out _⟩
    · have HV : Hid (decide (stI 1 true false < 5) = false) := rfl
      go_enter Tryz.func68, Tryz.ntmps68
      go_wp2_with fail
      refine (l6In_any _ _ _ _).mono ?_
      rintro e w' ⟨rfl, rfl⟩
      rw [HI.out]
      go_wp2_with fail
      go_ret
      exact ⟨by rw [HV.out]; rfl, HBB.out _⟩
    · have HV : Hid (decide (stI 1 true true < 5) = false) := rfl
      go_enter Tryz.func68, Tryz.ntmps68
      go_wp2_with fail
      refine (l6In_any _ _ _ _).mono ?_
      rintro e w' ⟨rfl, rfl⟩
      rw [HI.out]
      go_wp2_with fail
      go_ret
      exact ⟨by rw [HV.out]; rfl, HBB.out _⟩
  by_cases h2 : n = 2
  · subst h2
    have HI : Hid (inB 2 0 2 = true) := rfl
    clear h0 h1
    cases i <;> cases o
    · have HV : Hid (decide (stI 2 false false < 5) = true) := rfl
      go_enter Tryz.func68, Tryz.ntmps68
      go_wp2_with fail
      refine (l6In_any _ _ _ _).mono ?_
      rintro e w' ⟨rfl, rfl⟩
      rw [HI.out]
      go_wp2_with fail
      go_ret
      exact ⟨by rw [HV.out]; rfl, HBB.out _⟩
    · have HV : Hid (decide (stI 2 false true < 5) = false) := rfl
      go_enter Tryz.func68, Tryz.ntmps68
      go_wp2_with fail
      refine (l6In_any _ _ _ _).mono ?_
      rintro e w' ⟨rfl, rfl⟩
      rw [HI.out]
      go_wp2_with fail
      go_ret
      exact ⟨by rw [HV.out]; rfl, HBB.out _⟩
    · have HV : Hid (decide (stI 2 true false < 5) = true) := rfl
      go_enter Tryz.func68, Tryz.ntmps68
      go_wp2_with fail
      refine (l6In_any _ _ _ _).mono ?_
      rintro e w' ⟨rfl, rfl⟩
      rw [HI.out]
      go_wp2_with fail
      go_ret
      exact ⟨by rw [HV.out]; rfl, HBB.out _⟩
    · have HV : Hid (decide (stI 2 true true < 5) = false) := rfl
      go_enter Tryz.func68, Tryz.ntmps68
      go_wp2_with fail
      refine (l6In_any _ _ _ _).mono ?_
      rintro e w' ⟨rfl, rfl⟩
      rw [HI.out]
      go_wp2_with fail
      go_ret
      exact ⟨by rw [HV.out]; rfl, HBB.out _⟩
  · have HI : Hid (inB n 0 2 = false) := inB_false.2 (by omega)
    have HV : Hid (decide (stI n i o < 5) = false) := by
      have e : stI n i o = 5 := stI_no fun j hj => by
        have h5 : j = 0 ∨ j = 1 ∨ j = 2 ∨ j = 3 ∨ j = 4 := by omega
        have a0 : ¬ (0 : Int) = n := fun h => h0 h.symm
        have a1 : ¬ (1 : Int) = n := fun h => h1 h.symm
        have a2 : ¬ (2 : Int) = n := fun h => h2 h.symm
        rcases h5 with rfl | rfl | rfl | rfl | rfl <;> simp [bkE, stB, a0, a1, a2]
      rw [e]; rfl
    clear h0 h1 h2
    go_enter Tryz.func68, Tryz.ntmps68
    go_wp2_with fail
    refine (l6In_any _ _ _ _).mono ?_
    rintro e w' ⟨rfl, rfl⟩
    rw [HI.out]
    go_wp2_with fail
    go_ret
    exact ⟨by rw [HV.out]; rfl, HBB.out _⟩
theorem bsI_size {n : Int} {i o : Bool} {s : ByteArray} (h : ¬ s.size = 1) : bsI n i o s = 5 := if_neg h
theorem bsI_one {n : Int} {i o : Bool} {s : ByteArray} (h : s.size = 1) : bsI n i o s = nx (stI n i o) (bt s 0) := if_pos h
theorem bsI_no {n : Int} {i o : Bool} {s : ByteArray} (h : ¬ stI n i o < 5) : bsI n i o s = 5 := by
  unfold bsI
  split
  · obtain ⟨k, hk⟩ : ∃ k, stI n i o = k + 5 := ⟨stI n i o - 5, by omega⟩
    rw [hk]; rfl
  · rfl
/-- what BlockStep hands back -/
def BsRes (j : Nat) (w : World) (e : Ending) (w' : World) : Prop := e = .returned (.tuple #[bsV j, .bool (decide (j < 5))]) ∧ Below w.heap.size w w'
/-- the boxes of a step -/
structure BsM (w wr : World) (n : Int) (i o : Bool) : Prop where
  box : Bx wr w.heap.size 76 #[.int .i64 n, .bool i, .bool o]
  res : Bx wr (w.heap.size + 1) 76 #[.int .i64 0, .bool false, .bool false]
  bl : Below w.heap.size w wr
theorem BsM.below {w wr w' : World} {n : Int} {i o : Bool} {B : Nat} (h : BsM w wr n i o) (hb : Below B wr w') (hB : B = wr.heap.size) : BsM w w' n i o := by
  subst hB
  exact ⟨h.box.below hb h.box.lt, h.res.below hb h.res.lt, h.bl.trans (hb.mono h.bl.size)⟩
theorem BsM.new (w : World) (n : Int) (i o : Bool) : BsM w ((w.alloc (.cells #[.int .i64 n, .bool i, .bool o] 76)).alloc (.cells #[.int .i64 0, .bool false, .bool false] 76)) n i o :=
  ⟨(Bx.new _ _ _).alloc _, Bx.newAt (by simp), ((Below.refl _ _).alloc (Nat.le_refl _) _).alloc (by simp) _⟩
theorem BsM.done {w wr : World} {n : Int} {i o : Bool} (h : BsM w wr n i o) (a b c : Value) : Below w.heap.size w (((wr.setCell ⟨w.heap.size + 1, 0, none⟩ a).setCell ⟨w.heap.size + 1, 1, none⟩ b).setCell ⟨w.heap.size + 1, 2, none⟩ c) :=
  ((h.bl.setCell (by dsimp only; omega) _).setCell (by dsimp only; omega) _).setCell (by dsimp only; omega) _
set_option linter.unusedSimpArgs false in
set_option maxRecDepth 100000 in
set_option maxHeartbeats 4000000 in
theorem implStep_any (n : Int) (i o : Bool) (s : ByteArray) (w : World) :
    Calls Tryz.prog 161 #[.agg #[.int .i64 n, .bool i, .bool o], .string s] w (BsRes (bsI n i o s) w) := by
  have HM0 := Lib.hid (BsM.new w n i o)
  by_cases h5 : ¬ stI n i o < 5
  · have HJ := Lib.hid (bsI_no (s := s) h5)
    have HD : Hid (decide (stI n i o < 5) = false) := decide_eq_false h5
    clear h5
    go_enter Tryz.func161, Tryz.ntmps161
    go_wp2_with fail
    refine (instr_any n i o _).mono ?_
    rintro e w1 ⟨rfl, hb⟩
    have HM := Lib.hid (HM0.out.below hb rfl)
    have hrc := HM.out.res.cell
    have hrf := HM.out.res.free
    clear hb
    rw [HD.out]
    go_wp2_with fail
    exact bodyPost_ret (v := .tuple #[.agg #[.int .i64 0, .bool false, .bool false], .bool false]) (by simp [results, Tryz.results161, go_sem, hrc]) rfl ⟨by rw [HJ.out]; rfl, HM.out.done _ _ _⟩
  replace h5 := Decidable.not_not.1 h5
  have HD : Hid (decide (stI n i o < 5) = true) := decide_eq_true h5
  have HIV := Lib.hid (inV_at h5)
  by_cases h1 : ¬ s.size = 1
  · have HJ := Lib.hid (bsI_size (n := n) (i := i) (o := o) h1)
    have g1 : ((s.size : Int) != 1) = true := by simp; omega
    clear h1
    go_enter Tryz.func161, Tryz.ntmps161
    go_wp2_with fail
    refine (instr_any n i o _).mono ?_
    rintro e w1 ⟨rfl, hb⟩
    have HM := Lib.hid (HM0.out.below hb rfl)
    have hrc := HM.out.res.cell
    have hrf := HM.out.res.free
    clear hb
    rw [HD.out]
    go_wp2_with fail
    exact bodyPost_ret (v := .tuple #[.agg #[.int .i64 0, .bool false, .bool false], .bool false]) (by simp [results, Tryz.results161, go_sem, hrc]) rfl ⟨by rw [HJ.out]; rfl, HM.out.done _ _ _⟩
  replace h1 := Decidable.not_not.1 h1
  have HB1 := Lib.hid (bsI_one (n := n) (i := i) (o := o) h1)
  have g1 : ((s.size : Int) != 1) = false := by simp; omega
  have hs0 : 0 < s.size := by omega
  have hs0' : (0 : Int) < (s.size : Int) := by omega
  have hbt := bt_at hs0
  clear h1
  go_enter Tryz.func161, Tryz.ntmps161
  go_wp2_with fail
  refine (instr_any n i o _).mono ?_
  rintro e w1 ⟨rfl, hb⟩
  have HM := Lib.hid (HM0.out.below hb rfl)
  have hrc := HM.out.res.cell
  have hrf := HM.out.res.free
  clear hb
  rw [HD.out, HIV.out]
  go_wp2_with fail
  refine (stateBehind_any _ (bt s 0) _ h5).mono ?_
  rintro e w2 ⟨rfl, rfl⟩
  have hle := nx_le (stI n i o) (bt s 0)
  have h6 : nx (stI n i o) (bt s 0) = 0 ∨ nx (stI n i o) (bt s 0) = 1 ∨ nx (stI n i o) (bt s 0) = 2 ∨ nx (stI n i o) (bt s 0) = 3 ∨ nx (stI n i o) (bt s 0) = 4 ∨ nx (stI n i o) (bt s 0) = 5 := by omega
  clear hle
  rcases h6 with HNX | HNX | HNX | HNX | HNX | HNX <;> replace HNX := Lib.hid HNX
  · have HJ2 : Hid (bsI n i o s = 0) := by show _ = _; rw [HB1.out]; exact HNX.out
    have hv : Hid (sbV (stI n i o) (bt s 0) = ifV 0) := by show _ = _; unfold sbV; rw [HNX.out]; rfl
    have hme := fun (f : Nat) (w : World) => normalState_meth f w
    rw [hv.out, HNX.out]
    rw [show ifV 0 = .iface 133 (.agg #[]) from rfl]
    go_wp2_with fail
    refine (normalState_block _).mono ?_
    rintro e w3 ⟨rfl, hb⟩
    have HM3 := Lib.hid (HM.out.below hb rfl)
    clear hb hrc hrf
    have hrc := HM3.out.res.cell
    have hrf := HM3.out.res.free
    go_wp2_with fail
    exact bodyPost_ret (v := .tuple #[.agg #[.int .i64 0, .bool false, .bool false], .bool true]) (by simp [results, Tryz.results161, go_sem, hrc]) rfl ⟨by rw [HJ2.out]; rfl, HM3.out.done _ _ _⟩
  · have HJ2 : Hid (bsI n i o s = 1) := by show _ = _; rw [HB1.out]; exact HNX.out
    have hv : Hid (sbV (stI n i o) (bt s 0) = ifV 1) := by show _ = _; unfold sbV; rw [HNX.out]; rfl
    have hme := fun (f : Nat) (w : World) => offeredState_meth f w
    rw [hv.out, HNX.out]
    rw [show ifV 1 = .iface 134 (.agg #[]) from rfl]
    go_wp2_with fail
    refine (offeredState_block _).mono ?_
    rintro e w3 ⟨rfl, hb⟩
    have HM3 := Lib.hid (HM.out.below hb rfl)
    clear hb hrc hrf
    have hrc := HM3.out.res.cell
    have hrf := HM3.out.res.free
    go_wp2_with fail
    exact bodyPost_ret (v := .tuple #[.agg #[.int .i64 0, .bool false, .bool true], .bool true]) (by simp [results, Tryz.results161, go_sem, hrc]) rfl ⟨by rw [HJ2.out]; rfl, HM3.out.done _ _ _⟩
  · have HJ2 : Hid (bsI n i o s = 2) := by show _ = _; rw [HB1.out]; exact HNX.out
    have hv : Hid (sbV (stI n i o) (bt s 0) = ifV 2) := by show _ = _; unfold sbV; rw [HNX.out]; rfl
    have hme := fun (f : Nat) (w : World) => clearState_meth f w
    rw [hv.out, HNX.out]
    rw [show ifV 2 = .iface 135 (.agg #[]) from rfl]
    go_wp2_with fail
    refine (clearState_block _).mono ?_
    rintro e w3 ⟨rfl, hb⟩
    have HM3 := Lib.hid (HM.out.below hb rfl)
    clear hb hrc hrf
    have hrc := HM3.out.res.cell
    have hrf := HM3.out.res.free
    go_wp2_with fail
    exact bodyPost_ret (v := .tuple #[.agg #[.int .i64 1, .bool false, .bool false], .bool true]) (by simp [results, Tryz.results161, go_sem, hrc]) rfl ⟨by rw [HJ2.out]; rfl, HM3.out.done _ _ _⟩
  · have HJ2 : Hid (bsI n i o s = 3) := by show _ = _; rw [HB1.out]; exact HNX.out
    have hv : Hid (sbV (stI n i o) (bt s 0) = ifV 3) := by show _ = _; unfold sbV; rw [HNX.out]; rfl
    have hme := fun (f : Nat) (w : World) => insideState_meth f w
    rw [hv.out, HNX.out]
    rw [show ifV 3 = .iface 136 (.agg #[]) from rfl]
    go_wp2_with fail
    refine (insideState_block _).mono ?_
    rintro e w3 ⟨rfl, hb⟩
    have HM3 := Lib.hid (HM.out.below hb rfl)
    clear hb hrc hrf
    have hrc := HM3.out.res.cell
    have hrf := HM3.out.res.free
    go_wp2_with fail
    exact bodyPost_ret (v := .tuple #[.agg #[.int .i64 2, .bool true, .bool false], .bool true]) (by simp [results, Tryz.results161, go_sem, hrc]) rfl ⟨by rw [HJ2.out]; rfl, HM3.out.done _ _ _⟩
  · have HJ2 : Hid (bsI n i o s = 4) := by show _ = _; rw [HB1.out]; exact HNX.out
    have hv : Hid (sbV (stI n i o) (bt s 0) = ifV 4) := by show _ = _; unfold sbV; rw [HNX.out]; rfl
    have hme := fun (f : Nat) (w : World) => passedState_meth f w
    rw [hv.out, HNX.out]
    rw [show ifV 4 = .iface 137 (.agg #[]) from rfl]
    go_wp2_with fail
    refine (passedState_block _).mono ?_
    rintro e w3 ⟨rfl, hb⟩
    have HM3 := Lib.hid (HM.out.below hb rfl)
    clear hb hrc hrf
    have hrc := HM3.out.res.cell
    have hrf := HM3.out.res.free
    go_wp2_with fail
    exact bodyPost_ret (v := .tuple #[.agg #[.int .i64 2, .bool false, .bool false], .bool true]) (by simp [results, Tryz.results161, go_sem, hrc]) rfl ⟨by rw [HJ2.out]; rfl, HM3.out.done _ _ _⟩
  · have HJ : Hid (bsI n i o s = 5) := by show _ = _; rw [HB1.out]; exact HNX.out
    rw [HNX.out]
    go_wp2_with fail
    exact bodyPost_ret (v := .tuple #[.agg #[.int .i64 0, .bool false, .bool false], .bool false]) (by simp [results, Tryz.results161, go_sem, hrc]) rfl ⟨by rw [HJ.out]; rfl, HM.out.done _ _ _⟩
set_option linter.unusedSimpArgs false in
set_option maxRecDepth 100000 in
set_option maxHeartbeats 4000000 in
theorem specStep_any (n : Int) (i o : Bool) (s : ByteArray) (w : World) :
    Calls Tryz.prog 91 #[.agg #[.int .i64 n, .bool i, .bool o], .string s] w (BsRes (bsI n i o s) w) := by
  have HM0 := Lib.hid (BsM.new w n i o)
  by_cases h5 : ¬ stI n i o < 5
  · have HJ := Lib.hid (bsI_no (s := s) h5)
    have HD : Hid (decide (stI n i o < 5) = false) := decide_eq_false h5
    clear h5
    go_enter Tryz.func91, Tryz.ntmps91
    go_wp2_with fail
    refine (specPossible_any n i o _).mono ?_
    rintro e w1 ⟨rfl, hb⟩
    have HM := Lib.hid (HM0.out.below hb rfl)
    have hrc := HM.out.res.cell
    have hrf := HM.out.res.free
    clear hb
    rw [HD.out]
    go_wp2_with fail
    exact bodyPost_ret (v := .tuple #[.agg #[.int .i64 0, .bool false, .bool false], .bool false]) (by simp [results, Tryz.results91, go_sem, hrc]) rfl ⟨by rw [HJ.out]; rfl, HM.out.done _ _ _⟩
  replace h5 := Decidable.not_not.1 h5
  have HD : Hid (decide (stI n i o < 5) = true) := decide_eq_true h5
  by_cases h1 : ¬ s.size = 1
  · have HJ := Lib.hid (bsI_size (n := n) (i := i) (o := o) h1)
    have g1 : ((s.size : Int) != 1) = true := by simp; omega
    clear h1
    go_enter Tryz.func91, Tryz.ntmps91
    go_wp2_with fail
    refine (specPossible_any n i o _).mono ?_
    rintro e w1 ⟨rfl, hb⟩
    have HM := Lib.hid (HM0.out.below hb rfl)
    have hrc := HM.out.res.cell
    have hrf := HM.out.res.free
    clear hb
    rw [HD.out]
    go_wp2_with fail
    exact bodyPost_ret (v := .tuple #[.agg #[.int .i64 0, .bool false, .bool false], .bool false]) (by simp [results, Tryz.results91, go_sem, hrc]) rfl ⟨by rw [HJ.out]; rfl, HM.out.done _ _ _⟩
  replace h1 := Decidable.not_not.1 h1
  have HB1 := Lib.hid (bsI_one (n := n) (i := i) (o := o) h1)
  have g1 : ((s.size : Int) != 1) = false := by simp; omega
  have hs0 : 0 < s.size := by omega
  have hs0' : (0 : Int) < (s.size : Int) := by omega
  have hbt := bt_at hs0
  have hla : Calls Tryz.prog 69 #[.agg #[.int .i64 n, .bool i, .bool o], .int .u8 (bt s 0)] = Calls Tryz.prog 69 #[bkA (stI n i o), .int .u8 (bt s 0)] := by
    obtain ⟨e1, e2, e3⟩ := stI_B rfl h5
    unfold bkA
    rw [← e1, ← e2, ← e3]
  have HL : Hid (∀ W, Calls Tryz.prog 69 #[.agg #[.int .i64 n, .bool i, .bool o], .int .u8 (bt s 0)] W fun e w' => e = .returned (.tuple #[bsV (bsI n i o s), .bool (decide (bsI n i o s < 5))]) ∧ Below W.heap.size W w') := fun W => by
    rw [hla, HB1.out]
    exact l3Step_any _ _ _ h5
  have hbv : ∃ a b c, bsV (bsI n i o s) = .agg #[.int .i64 a, .bool b, .bool c] := by
    unfold bsV
    split
    · exact ⟨_, _, _, rfl⟩
    · exact ⟨_, _, _, rfl⟩
  obtain ⟨a, b, c, hbv⟩ := hbv
  have HBV := Lib.hid hbv
  clear h1 hla hbv
  go_enter Tryz.func91, Tryz.ntmps91
  go_wp2_with fail
  refine (specPossible_any n i o _).mono ?_
  rintro e w1 ⟨rfl, hb⟩
  have HM := Lib.hid (HM0.out.below hb rfl)
  have hbc := HM.out.box.cell
  clear hb
  rw [HD.out]
  go_wp2_with fail
  refine wp_region_held_drew (S := (fun w' => w'.cell? ⟨w.heap.size, 0, none⟩ = some (.int .i64 n) ∧ w'.cell? ⟨w.heap.size, 1, none⟩ = some (.bool i) ∧ w'.cell? ⟨w.heap.size, 2, none⟩ = some (.bool o))) (by kernel_rfl) ?_ (fun hHeld => ?_)
  · try dsimp only
    go_keep
  refine wpAnyH_take (i := 0) (oi := ?_) (v := ?_) ?_ (by kernel_rfl) (by kernel_rfl) (by kernel_rfl) ?_ ?_ (by assumption) ?_
  rotate_left 2
  · simp only [List.getElem?_toArray, List.getElem?_cons_succ, List.getElem?_cons_zero]; rfl
  · exact fun _ _ _ h => h
  · first
      | (refine Or.inr ⟨?_, ?_⟩ <;> rfl)
      | (refine Or.inl ⟨?_, ?_⟩; · rfl
         intro w hSw; (try dsimp only at hSw); go_simp; (try with_reducible rfl); done)
  try simp only [Act.put, List.setIfInBounds_toArray, List.set_cons_zero, List.set_cons_succ]
  refine wpAnyH_take (i := 1) (oi := ?_) (v := ?_) ?_ (by kernel_rfl) (by kernel_rfl) (by kernel_rfl) ?_ ?_ (by assumption) ?_
  rotate_left 2
  · simp only [List.getElem?_toArray, List.getElem?_cons_succ, List.getElem?_cons_zero]; rfl
  · exact fun _ _ _ h => h
  · first
      | (refine Or.inr ⟨?_, ?_⟩ <;> rfl)
      | (refine Or.inl ⟨?_, ?_⟩; · rfl
         intro w hSw; (try dsimp only at hSw); go_simp; (try with_reducible rfl); done)
  try simp only [Act.put, List.setIfInBounds_toArray, List.set_cons_zero, List.set_cons_succ]
  refine wpAnyH_take (i := 2) (oi := ?_) (v := ?_) ?_ (by kernel_rfl) (by kernel_rfl) (by kernel_rfl) ?_ ?_ (by assumption) ?_
  rotate_left 2
  · simp only [List.getElem?_toArray, List.getElem?_cons_succ, List.getElem?_cons_zero]; rfl
  · exact fun _ _ _ h => h
  · first
      | (refine Or.inr ⟨?_, ?_⟩ <;> rfl)
      | (refine Or.inl ⟨?_, ?_⟩; · rfl
         intro w hSw; (try dsimp only at hSw); go_simp; (try with_reducible rfl); done)
  try simp only [Act.put, List.setIfInBounds_toArray, List.set_cons_zero, List.set_cons_succ]
  refine wpAnyH_ready (rs := [3]) (by kernel_rfl) (by simp) ?_
  refine AllReadyH.cons (o := ?_) ?_ (fun K hK => ?_) AllReadyH.nil
  rotate_left 1
  · simp only [List.getElem?_toArray, List.getElem?_cons_succ, List.getElem?_cons_zero]; rfl
  go_simp
  go_at_call 69
  go_must (refine Calls.mono (HL.out _) ?_)
  rintro e w2 ⟨rfl, hb⟩
  rw [HBV.out]
  have HM2 := Lib.hid ((HM.out.below (B := w1.heap.size) (Below.refl _ w1).drew rfl).below hb rfl)
  clear hb hbc
  have hbc := HM2.out.box.cell
  have hrc := HM2.out.res.cell
  have hrf := HM2.out.res.free
  refine hK.out _ _ ?_ (fun hHeld => ?_)
  · try dsimp only
    go_keep
  clear hK K
  try simp only [Act.put, List.setIfInBounds_toArray, List.set_cons_zero, List.set_cons_succ]
  refine wpAnyH_take (i := 4) (oi := ?_) (v := ?_) ?_ (by kernel_rfl) (by kernel_rfl) (by kernel_rfl) ?_ ?_ (by assumption) ?_
  rotate_left 2
  · simp only [List.getElem?_toArray, List.getElem?_cons_succ, List.getElem?_cons_zero]; rfl
  · exact fun _ _ _ h => h
  · first
      | (refine Or.inr ⟨?_, ?_⟩ <;> rfl)
      | (refine Or.inl ⟨?_, ?_⟩; · rfl
         intro w hSw; (try dsimp only at hSw); go_simp; (try with_reducible rfl); done)
  try simp only [Act.put, List.setIfInBounds_toArray, List.set_cons_zero, List.set_cons_succ]
  refine wpAnyH_take (i := 5) (oi := ?_) (v := ?_) ?_ (by kernel_rfl) (by kernel_rfl) (by kernel_rfl) ?_ ?_ (by assumption) ?_
  rotate_left 2
  · simp only [List.getElem?_toArray, List.getElem?_cons_succ, List.getElem?_cons_zero]; rfl
  · exact fun _ _ _ h => h
  · first
      | (refine Or.inr ⟨?_, ?_⟩ <;> rfl)
      | (refine Or.inl ⟨?_, ?_⟩; · rfl
         intro w hSw; (try dsimp only at hSw); go_simp; (try with_reducible rfl); done)
  try simp only [Act.put, List.setIfInBounds_toArray, List.set_cons_zero, List.set_cons_succ]
  refine wpAnyH_ready (rs := [6]) (by kernel_rfl) (by simp) ?_
  refine AllReadyH.cons (o := ?_) ?_ (fun K hK => ?_) AllReadyH.nil
  rotate_left 1
  · simp only [List.getElem?_toArray, List.getElem?_cons_succ, List.getElem?_cons_zero]; rfl
  go_simp
  skip
  refine hK.out _ _ ?_ (fun hHeld => ?_)
  · try dsimp only
    go_keep
  clear hK K
  try simp only [Act.put, List.setIfInBounds_toArray, List.set_cons_zero, List.set_cons_succ]
  refine wpAnyH_take (i := 7) (oi := ?_) (v := ?_) ?_ (by kernel_rfl) (by kernel_rfl) (by kernel_rfl) ?_ ?_ (by assumption) ?_
  rotate_left 2
  · simp only [List.getElem?_toArray, List.getElem?_cons_succ, List.getElem?_cons_zero]; rfl
  · exact fun _ _ _ h => h
  · first
      | (refine Or.inr ⟨?_, ?_⟩ <;> rfl)
      | (refine Or.inl ⟨?_, ?_⟩; · rfl
         intro w hSw; (try dsimp only at hSw); go_simp; (try with_reducible rfl); done)
  try simp only [Act.put, List.setIfInBounds_toArray, List.set_cons_zero, List.set_cons_succ]
  refine wpAnyH_done (by kernel_rfl) ?_ _
  go_wp2_with fail
  exact bodyPost_ret (v := .tuple #[.agg #[.int .i64 a, .bool b, .bool c], .bool (decide (bsI n i o s < 5))]) (by simp [results, Tryz.results91, go_sem, hrc]) rfl ⟨by rw [HBV.out], HM2.out.done _ _ _⟩
end Go.Proofs.YtlkdmpfifpkpaaaGreatDoor
namespace Go.Proofs.YtlkdmpfifpkpaaaGreatDoor
open Go.RowKit

/-- the state behind the letters of a text; 5 where there is none -/
def rnS (s : Nat) (l : List UInt8) : Nat := l.foldl (fun s c => nx s (c.toNat : Int)) s
theorem rnS_app (s : Nat) (a b : List UInt8) : rnS s (a ++ b) = rnS (rnS s a) b := List.foldl_append
theorem rnS_five : ∀ l, rnS 5 l = 5
  | [] => rfl
  | _ :: l => rnS_five l
theorem rnS_le {s : Nat} (hs : s ≤ 5) : ∀ l, rnS s l ≤ 5
  | [] => hs
  | c :: l => rnS_le (nx_le s c.toNat) l
theorem rnS_take {s : Nat} {t : ByteArray} {k : Nat} (hk : k < t.size) : rnS s (t.data.toList.take (k + 1)) = nx (rnS s (t.data.toList.take k)) (bt t k) := by
  have hk' : k < t.data.toList.length := by simpa using hk
  rw [List.take_succ_eq_append_getElem hk', rnS_app]
  show nx _ ((t.data.toList[k]).toNat : Int) = _
  rw [← bt_at hk]
  rfl
theorem rnS_stop {s : Nat} {t : ByteArray} {k : Nat} (h : rnS s (t.data.toList.take k) = 5) : rnS s t.data.toList = 5 := by
  have e : t.data.toList = t.data.toList.take k ++ t.data.toList.drop k := (List.take_append_drop _ _).symm
  rw [e, rnS_app, h, rnS_five]
theorem rnS_all {s : Nat} {t : ByteArray} : rnS s (t.data.toList.take t.size) = rnS s t.data.toList := by
  rw [List.take_of_length_le (by simp)]
/-- the number of the state behind BlockRun -/
def brJ (n : Int) (i o : Bool) (t : ByteArray) : Nat := if t.size ≤ 30 then rnS (stI n i o) t.data.toList else 5
theorem stI_le (n : Int) (i o : Bool) : stI n i o ≤ 5 := by
  unfold stI
  repeat (first | omega | split)
theorem brJ_no {n : Int} {i o : Bool} {t : ByteArray} (h : ¬ stI n i o < 5) : brJ n i o t = 5 := by
  unfold brJ
  have := stI_le n i o
  rw [show stI n i o = 5 by omega, rnS_five]
  split <;> rfl
theorem brJ_long {n : Int} {i o : Bool} {t : ByteArray} (h : ¬ t.size ≤ 30) : brJ n i o t = 5 := if_neg h
theorem brJ_yes {n : Int} {i o : Bool} {t : ByteArray} (h : t.size ≤ 30) : brJ n i o t = rnS (stI n i o) t.data.toList := if_pos h
set_option linter.unusedSimpArgs false in
set_option maxRecDepth 100000 in
set_option maxHeartbeats 4000000 in
theorem implRun_any (n : Int) (i o : Bool) (t : ByteArray) (w : World) :
    Calls Tryz.prog 51 #[.agg #[.int .i64 n, .bool i, .bool o], .string t] w (BsRes (brJ n i o t) w) := by
  have HM0 := Lib.hid (BsM.new w n i o)
  by_cases h5 : ¬ stI n i o < 5
  · have HJ := Lib.hid (brJ_no (t := t) h5)
    have HD : Hid (decide (stI n i o < 5) = false) := decide_eq_false h5
    clear h5
    go_enter Tryz.func51, Tryz.ntmps51
    go_wp2_with fail
    refine (instr_any n i o _).mono ?_
    rintro e w1 ⟨rfl, hb⟩
    have HM := Lib.hid (HM0.out.below hb rfl)
    have hrc := HM.out.res.cell
    have hrf := HM.out.res.free
    clear hb
    rw [HD.out]
    go_wp2_with fail
    exact bodyPost_ret (v := .tuple #[.agg #[.int .i64 0, .bool false, .bool false], .bool false]) (by simp [results, Tryz.results51, go_sem, hrc]) rfl ⟨by rw [HJ.out]; rfl, HM.out.done _ _ _⟩
  replace h5 := Decidable.not_not.1 h5
  have HD : Hid (decide (stI n i o < 5) = true) := decide_eq_true h5
  have HIV := Lib.hid (inV_at h5)
  by_cases h30 : (30 : Int) < (t.size : Int)
  · have HJ := Lib.hid (brJ_long (n := n) (i := i) (o := o) (t := t) (by omega))
    go_enter Tryz.func51, Tryz.ntmps51
    go_wp2_with fail
    refine (instr_any n i o _).mono ?_
    rintro e w1 ⟨rfl, hb⟩
    have HM := Lib.hid (HM0.out.below hb rfl)
    have hrc := HM.out.res.cell
    have hrf := HM.out.res.free
    clear hb
    rw [HD.out]
    go_wp2_with fail
    exact bodyPost_ret (v := .tuple #[.agg #[.int .i64 0, .bool false, .bool false], .bool false]) (by simp [results, Tryz.results51, go_sem, hrc]) rfl ⟨by rw [HJ.out]; rfl, HM.out.done _ _ _⟩
  have HBJ := Lib.hid (brJ_yes (n := n) (i := i) (o := o) (t := t) (by omega))
  have HS5 := Lib.hid h5
  go_enter Tryz.func51, Tryz.ntmps51
  go_wp2_with fail
  refine (instr_any n i o _).mono ?_
  rintro e w1 ⟨rfl, hb⟩
  have HM := Lib.hid (HM0.out.below hb rfl)
  have hrc := HM.out.res.cell
  have hrf := HM.out.res.free
  clear hb
  rw [HD.out, HIV.out]
  go_wp2_with fail
  go_loop [6, 7, 8, 24] (fun s _ _ i' => ∃ k : Nat, k ≤ t.size ∧ i' = .int .i64 k ∧ ∃ q, Hid (rnS (stI n i o) (t.data.toList.take k) = q) ∧ q < 5 ∧ s = ifV q) (fun _ _ _ i' => t.size - (intOf i').toNat)
  case atStart => exact ⟨0, Nat.zero_le _, rfl, _, Lib.hid rfl, h5, rfl⟩
  case round =>
    obtain ⟨k, hk, rfl, q, HQ, hq5, rfl⟩ := hrel
    by_cases hlt : k < t.size
    · have hlt' : (k : Int) < (t.size : Int) := by omega
      have hbt := bt_at hlt
      have HNX : Hid (rnS (stI n i o) (t.data.toList.take (k + 1)) = nx q (bt t k)) := by show _ = _; rw [rnS_take hlt, HQ.out]
      go_wp2_with fail
      refine (stateBehind_any q (bt t k) _ hq5).mono ?_
      rintro e w2 ⟨rfl, rfl⟩
      by_cases hn : nx q (bt t k) < 5
      · have HV : Hid (sbV q (bt t k) = ifV (nx q (bt t k))) := if_pos hn
        have HN : Hid (decide (nx q (bt t k) < 5) = true) := decide_eq_true hn
        rw [HV.out, HN.out]
        go_wp2_with fail
        go_round
        case rel => exact ⟨k + 1, by omega, by go_num, _, HNX, hn, rfl⟩
        case measure => simp [intOf]; omega
      · have HN : Hid (decide (nx q (bt t k) < 5) = false) := decide_eq_false hn
        have hle := nx_le q (bt t k)
        have HJ : Hid (brJ n i o t = 5) := by show _ = _; rw [HBJ.out]; exact rnS_stop (k := k + 1) (by rw [HNX.out]; omega)
        obtain ⟨v, hv⟩ : ∃ v, v = sbV q (bt t k) := ⟨_, rfl⟩
        rw [HN.out]
        clear hn hle hv
        go_wp2_with fail
        exact bodyPost_ret (v := .tuple #[.agg #[.int .i64 0, .bool false, .bool false], .bool false]) (by simp [results, Tryz.results51, go_sem, hrc]) rfl ⟨by rw [HJ.out]; rfl, HM.out.done _ _ _⟩
    · obtain rfl : k = t.size := by omega
      have HJ2 : Hid (brJ n i o t = q) := by show _ = _; rw [HBJ.out, ← rnS_all]; exact HQ.out
      have h6 : q = 0 ∨ q = 1 ∨ q = 2 ∨ q = 3 ∨ q = 4 := by omega
      clear HQ hq5
      rcases h6 with rfl | rfl | rfl | rfl | rfl
      · have hme := fun (f : Nat) (w : World) => normalState_meth f w
        rw [show ifV 0 = .iface 133 (.agg #[]) from rfl]
        go_wp2_with fail
        refine (normalState_block _).mono ?_
        rintro e w3 ⟨rfl, hb⟩
        have HM3 := Lib.hid (HM.out.below hb rfl)
        clear hb hrc hrf
        have hrc := HM3.out.res.cell
        have hrf := HM3.out.res.free
        go_wp2_with fail
        exact bodyPost_ret (v := .tuple #[.agg #[.int .i64 0, .bool false, .bool false], .bool true]) (by simp [results, Tryz.results51, go_sem, hrc]) rfl ⟨by rw [HJ2.out]; rfl, HM3.out.done _ _ _⟩
      · have hme := fun (f : Nat) (w : World) => offeredState_meth f w
        rw [show ifV 1 = .iface 134 (.agg #[]) from rfl]
        go_wp2_with fail
        refine (offeredState_block _).mono ?_
        rintro e w3 ⟨rfl, hb⟩
        have HM3 := Lib.hid (HM.out.below hb rfl)
        clear hb hrc hrf
        have hrc := HM3.out.res.cell
        have hrf := HM3.out.res.free
        go_wp2_with fail
        exact bodyPost_ret (v := .tuple #[.agg #[.int .i64 0, .bool false, .bool true], .bool true]) (by simp [results, Tryz.results51, go_sem, hrc]) rfl ⟨by rw [HJ2.out]; rfl, HM3.out.done _ _ _⟩
      · have hme := fun (f : Nat) (w : World) => clearState_meth f w
        rw [show ifV 2 = .iface 135 (.agg #[]) from rfl]
        go_wp2_with fail
        refine (clearState_block _).mono ?_
        rintro e w3 ⟨rfl, hb⟩
        have HM3 := Lib.hid (HM.out.below hb rfl)
        clear hb hrc hrf
        have hrc := HM3.out.res.cell
        have hrf := HM3.out.res.free
        go_wp2_with fail
        exact bodyPost_ret (v := .tuple #[.agg #[.int .i64 1, .bool false, .bool false], .bool true]) (by simp [results, Tryz.results51, go_sem, hrc]) rfl ⟨by rw [HJ2.out]; rfl, HM3.out.done _ _ _⟩
      · have hme := fun (f : Nat) (w : World) => insideState_meth f w
        rw [show ifV 3 = .iface 136 (.agg #[]) from rfl]
        go_wp2_with fail
        refine (insideState_block _).mono ?_
        rintro e w3 ⟨rfl, hb⟩
        have HM3 := Lib.hid (HM.out.below hb rfl)
        clear hb hrc hrf
        have hrc := HM3.out.res.cell
        have hrf := HM3.out.res.free
        go_wp2_with fail
        exact bodyPost_ret (v := .tuple #[.agg #[.int .i64 2, .bool true, .bool false], .bool true]) (by simp [results, Tryz.results51, go_sem, hrc]) rfl ⟨by rw [HJ2.out]; rfl, HM3.out.done _ _ _⟩
      · have hme := fun (f : Nat) (w : World) => passedState_meth f w
        rw [show ifV 4 = .iface 137 (.agg #[]) from rfl]
        go_wp2_with fail
        refine (passedState_block _).mono ?_
        rintro e w3 ⟨rfl, hb⟩
        have HM3 := Lib.hid (HM.out.below hb rfl)
        clear hb hrc hrf
        have hrc := HM3.out.res.cell
        have hrf := HM3.out.res.free
        go_wp2_with fail
        exact bodyPost_ret (v := .tuple #[.agg #[.int .i64 2, .bool false, .bool false], .bool true]) (by simp [results, Tryz.results51, go_sem, hrc]) rfl ⟨by rw [HJ2.out]; rfl, HM3.out.done _ _ _⟩
/-- a text is legal -/
def lgB (t : ByteArray) : Bool := decide (brJ 0 false false t < 5)
set_option linter.unusedSimpArgs false in
theorem implLegal_any (t : ByteArray) (w : World) :
    Calls Tryz.prog 27 #[.string t] w fun e w' => e = .returned (.bool (lgB t)) ∧ Below w.heap.size w w' := by
  have hv : ∃ a b c, bsV (brJ 0 false false t) = .agg #[.int .i64 a, .bool b, .bool c] := by
    unfold bsV
    split
    · exact ⟨_, _, _, rfl⟩
    · exact ⟨_, _, _, rfl⟩
  obtain ⟨a, b, c, hv⟩ := hv
  have HV := Lib.hid hv
  clear hv
  go_enter Tryz.func27, Tryz.ntmps27
  go_wp2_with fail
  refine (implRun_any 0 false false t _).mono ?_
  rintro e w1 ⟨rfl, hb⟩
  have HB := Lib.hid hb
  clear hb
  rw [HV.out]
  go_wp2_with fail
  go_ret
  exact ⟨rfl, HB.out.alloc HB.out.size _⟩
end Go.Proofs.YtlkdmpfifpkpaaaGreatDoor
