/-
  Walks on blocks: the step of the program and of the reference.
-/
import Derived.Test.YtokddeoliieofaaBs
namespace Go.Proofs.Ytokddeoliieofaa
open Go.RowKit

/-- the block of a state -/
def bkA (k : Nat) : Value := .agg #[.int .i64 (stB k).n, .bool (stB k).i, .bool (stB k).o]
/-- the block behind a step: the zero block where there is none -/
def bsV (k : Nat) : Value := if k < 5 then bkA k else .agg #[.int .i64 0, .bool false, .bool false]
theorem stI_B {n : Int} {i o : Bool} {k : Nat} (h : stI n i o = k) (hk : k < 5) : n = (stB k).n ∧ i = (stB k).i ∧ o = (stB k).o := by
  have key : ∀ j, bkE j n i o = true → n = (stB j).n ∧ i = (stB j).i ∧ o = (stB j).o := fun j hj => by
    simp only [bkE, Bool.and_eq_true, decide_eq_true_eq] at hj
    exact ⟨hj.1.symm, hj.2.1.symm, hj.2.2.symm⟩
  unfold stI at h
  split at h
  · subst h; exact key _ (by assumption)
  · split at h
    · subst h; exact key _ (by assumption)
    · split at h
      · subst h; exact key _ (by assumption)
      · split at h
        · subst h; exact key _ (by assumption)
        · split at h
          · subst h; exact key _ (by assumption)
          · omega
theorem stI_stB {k : Nat} (hk : k < 5) : stI (stB k).n (stB k).i (stB k).o = k := by
  have h5 : k = 0 ∨ k = 1 ∨ k = 2 ∨ k = 3 ∨ k = 4 := by omega
  rcases h5 with rfl | rfl | rfl | rfl | rfl <;> rfl
set_option linter.unusedSimpArgs false in
set_option maxRecDepth 100000 in
set_option maxHeartbeats 8000000 in
theorem l3Step_any (k : Nat) (c : Int) (w : World) (hk : k < 5) :
    Calls Try.prog 104 #[bkA k, .int .u8 c] w fun e w' => e = .returned (.tuple #[bsV (nx k c), .bool (decide (nx k c < 5))]) ∧ Below w.heap.size w w' := by
  have HBB : Hid (∀ a b, Below w.heap.size w ((w.alloc a).alloc b)) := fun a b => ((Below.refl _ _).alloc (Nat.le_refl _) _).alloc (by simp) _
  have h5 : k = 0 ∨ k = 1 ∨ k = 2 ∨ k = 3 ∨ k = 4 := by omega
  rcases h5 with rfl | rfl | rfl | rfl | rfl
  · show Calls Try.prog 104 #[.agg #[.int .i64 0, .bool false, .bool false], .int .u8 c] w _
    by_cases h0 : c = 111
    · subst h0
      have HJ : Hid (nx 0 111 = 1) := rfl
      go_enter Try.func104, Try.ntmps104
      go_wp2_with fail
      exact bodyPost_ret (v := .tuple #[.agg #[.int .i64 0, .bool false, .bool true], .bool true]) (by simp [results, Try.results104, go_sem]) rfl ⟨by rw [HJ.out]; rfl, by
        have h0 := HBB.out
        repeat (with_reducible first | exact h0 _ _ | refine Below.setCell ?_ (by dsimp only; omega) _)⟩
    have g0 : (c == 111) = false := by simp [h0]
    by_cases h1 : c = 114
    · subst h1
      have HJ : Hid (nx 0 114 = 5) := rfl
      clear h0 g0
      go_enter Try.func104, Try.ntmps104
      go_wp2_with fail
      exact bodyPost_ret (v := .tuple #[.agg #[.int .i64 0, .bool false, .bool false], .bool false]) (by simp [results, Try.results104, go_sem]) rfl ⟨by rw [HJ.out]; rfl, by
        have h0 := HBB.out
        repeat (with_reducible first | exact h0 _ _ | refine Below.setCell ?_ (by dsimp only; omega) _)⟩
    have g1 : (c == 114) = false := by simp [h1]
    by_cases h2 : c = 97
    · subst h2
      have HJ : Hid (nx 0 97 = 5) := rfl
      clear h0 h1 g0 g1
      go_enter Try.func104, Try.ntmps104
      go_wp2_with fail
      exact bodyPost_ret (v := .tuple #[.agg #[.int .i64 0, .bool false, .bool false], .bool false]) (by simp [results, Try.results104, go_sem]) rfl ⟨by rw [HJ.out]; rfl, by
        have h0 := HBB.out
        repeat (with_reducible first | exact h0 _ _ | refine Below.setCell ?_ (by dsimp only; omega) _)⟩
    have g2 : (c == 97) = false := by simp [h2]
    by_cases h3 : c = 99
    · subst h3
      have HJ : Hid (nx 0 99 = 5) := rfl
      clear h0 h1 h2 g0 g1 g2
      go_enter Try.func104, Try.ntmps104
      go_wp2_with fail
      exact bodyPost_ret (v := .tuple #[.agg #[.int .i64 0, .bool false, .bool false], .bool false]) (by simp [results, Try.results104, go_sem]) rfl ⟨by rw [HJ.out]; rfl, by
        have h0 := HBB.out
        repeat (with_reducible first | exact h0 _ _ | refine Below.setCell ?_ (by dsimp only; omega) _)⟩
    have g3 : (c == 99) = false := by simp [h3]
    by_cases h4 : c = 101
    · subst h4
      have HJ : Hid (nx 0 101 = 5) := rfl
      clear h0 h1 h2 h3 g0 g1 g2 g3
      go_enter Try.func104, Try.ntmps104
      go_wp2_with fail
      exact bodyPost_ret (v := .tuple #[.agg #[.int .i64 0, .bool false, .bool false], .bool false]) (by simp [results, Try.results104, go_sem]) rfl ⟨by rw [HJ.out]; rfl, by
        have h0 := HBB.out
        repeat (with_reducible first | exact h0 _ _ | refine Below.setCell ?_ (by dsimp only; omega) _)⟩
    have g4 : (c == 101) = false := by simp [h4]
    by_cases h5 : c = 108
    · subst h5
      have HJ : Hid (nx 0 108 = 5) := rfl
      clear h0 h1 h2 h3 h4 g0 g1 g2 g3 g4
      go_enter Try.func104, Try.ntmps104
      go_wp2_with fail
      exact bodyPost_ret (v := .tuple #[.agg #[.int .i64 0, .bool false, .bool false], .bool false]) (by simp [results, Try.results104, go_sem]) rfl ⟨by rw [HJ.out]; rfl, by
        have h0 := HBB.out
        repeat (with_reducible first | exact h0 _ _ | refine Below.setCell ?_ (by dsimp only; omega) _)⟩
    have g5 : (c == 108) = false := by simp [h5]
    by_cases h6 : c = 102
    · subst h6
      have HJ : Hid (nx 0 102 = 5) := rfl
      clear h0 h1 h2 h3 h4 h5 g0 g1 g2 g3 g4 g5
      go_enter Try.func104, Try.ntmps104
      go_wp2_with fail
      exact bodyPost_ret (v := .tuple #[.agg #[.int .i64 0, .bool false, .bool false], .bool false]) (by simp [results, Try.results104, go_sem]) rfl ⟨by rw [HJ.out]; rfl, by
        have h0 := HBB.out
        repeat (with_reducible first | exact h0 _ _ | refine Below.setCell ?_ (by dsimp only; omega) _)⟩
    have g6 : (c == 102) = false := by simp [h6]
    have HJ : Hid (nx 0 c = 5) := by show _ = _; simp [nx, h0, h1, h2, h3, h4, h5, h6]
    clear h0 h1 h2 h3 h4 h5 h6
    go_enter Try.func104, Try.ntmps104
    go_wp2_with fail
    exact bodyPost_ret (v := .tuple #[.agg #[.int .i64 0, .bool false, .bool false], .bool false]) (by simp [results, Try.results104, go_sem]) rfl ⟨by rw [HJ.out]; rfl, by
      have h0 := HBB.out
      repeat (with_reducible first | exact h0 _ _ | refine Below.setCell ?_ (by dsimp only; omega) _)⟩
  · show Calls Try.prog 104 #[.agg #[.int .i64 0, .bool false, .bool true], .int .u8 c] w _
    by_cases h0 : c = 111
    · subst h0
      have HJ : Hid (nx 1 111 = 5) := rfl
      go_enter Try.func104, Try.ntmps104
      go_wp2_with fail
      exact bodyPost_ret (v := .tuple #[.agg #[.int .i64 0, .bool false, .bool false], .bool false]) (by simp [results, Try.results104, go_sem]) rfl ⟨by rw [HJ.out]; rfl, by
        have h0 := HBB.out
        repeat (with_reducible first | exact h0 _ _ | refine Below.setCell ?_ (by dsimp only; omega) _)⟩
    have g0 : (c == 111) = false := by simp [h0]
    by_cases h1 : c = 114
    · subst h1
      have HJ : Hid (nx 1 114 = 0) := rfl
      clear h0 g0
      go_enter Try.func104, Try.ntmps104
      go_wp2_with fail
      exact bodyPost_ret (v := .tuple #[.agg #[.int .i64 0, .bool false, .bool false], .bool true]) (by simp [results, Try.results104, go_sem]) rfl ⟨by rw [HJ.out]; rfl, by
        have h0 := HBB.out
        repeat (with_reducible first | exact h0 _ _ | refine Below.setCell ?_ (by dsimp only; omega) _)⟩
    have g1 : (c == 114) = false := by simp [h1]
    by_cases h2 : c = 97
    · subst h2
      have HJ : Hid (nx 1 97 = 2) := rfl
      clear h0 h1 g0 g1
      go_enter Try.func104, Try.ntmps104
      go_wp2_with fail
      exact bodyPost_ret (v := .tuple #[.agg #[.int .i64 1, .bool false, .bool false], .bool true]) (by simp [results, Try.results104, go_sem]) rfl ⟨by rw [HJ.out]; rfl, by
        have h0 := HBB.out
        repeat (with_reducible first | exact h0 _ _ | refine Below.setCell ?_ (by dsimp only; omega) _)⟩
    have g2 : (c == 97) = false := by simp [h2]
    by_cases h3 : c = 99
    · subst h3
      have HJ : Hid (nx 1 99 = 5) := rfl
      clear h0 h1 h2 g0 g1 g2
      go_enter Try.func104, Try.ntmps104
      go_wp2_with fail
      exact bodyPost_ret (v := .tuple #[.agg #[.int .i64 0, .bool false, .bool false], .bool false]) (by simp [results, Try.results104, go_sem]) rfl ⟨by rw [HJ.out]; rfl, by
        have h0 := HBB.out
        repeat (with_reducible first | exact h0 _ _ | refine Below.setCell ?_ (by dsimp only; omega) _)⟩
    have g3 : (c == 99) = false := by simp [h3]
    by_cases h4 : c = 101
    · subst h4
      have HJ : Hid (nx 1 101 = 5) := rfl
      clear h0 h1 h2 h3 g0 g1 g2 g3
      go_enter Try.func104, Try.ntmps104
      go_wp2_with fail
      exact bodyPost_ret (v := .tuple #[.agg #[.int .i64 0, .bool false, .bool false], .bool false]) (by simp [results, Try.results104, go_sem]) rfl ⟨by rw [HJ.out]; rfl, by
        have h0 := HBB.out
        repeat (with_reducible first | exact h0 _ _ | refine Below.setCell ?_ (by dsimp only; omega) _)⟩
    have g4 : (c == 101) = false := by simp [h4]
    by_cases h5 : c = 108
    · subst h5
      have HJ : Hid (nx 1 108 = 5) := rfl
      clear h0 h1 h2 h3 h4 g0 g1 g2 g3 g4
      go_enter Try.func104, Try.ntmps104
      go_wp2_with fail
      exact bodyPost_ret (v := .tuple #[.agg #[.int .i64 0, .bool false, .bool false], .bool false]) (by simp [results, Try.results104, go_sem]) rfl ⟨by rw [HJ.out]; rfl, by
        have h0 := HBB.out
        repeat (with_reducible first | exact h0 _ _ | refine Below.setCell ?_ (by dsimp only; omega) _)⟩
    have g5 : (c == 108) = false := by simp [h5]
    by_cases h6 : c = 102
    · subst h6
      have HJ : Hid (nx 1 102 = 5) := rfl
      clear h0 h1 h2 h3 h4 h5 g0 g1 g2 g3 g4 g5
      go_enter Try.func104, Try.ntmps104
      go_wp2_with fail
      exact bodyPost_ret (v := .tuple #[.agg #[.int .i64 0, .bool false, .bool false], .bool false]) (by simp [results, Try.results104, go_sem]) rfl ⟨by rw [HJ.out]; rfl, by
        have h0 := HBB.out
        repeat (with_reducible first | exact h0 _ _ | refine Below.setCell ?_ (by dsimp only; omega) _)⟩
    have g6 : (c == 102) = false := by simp [h6]
    have HJ : Hid (nx 1 c = 5) := by show _ = _; simp [nx, h0, h1, h2, h3, h4, h5, h6]
    clear h0 h1 h2 h3 h4 h5 h6
    go_enter Try.func104, Try.ntmps104
    go_wp2_with fail
    exact bodyPost_ret (v := .tuple #[.agg #[.int .i64 0, .bool false, .bool false], .bool false]) (by simp [results, Try.results104, go_sem]) rfl ⟨by rw [HJ.out]; rfl, by
      have h0 := HBB.out
      repeat (with_reducible first | exact h0 _ _ | refine Below.setCell ?_ (by dsimp only; omega) _)⟩
  · show Calls Try.prog 104 #[.agg #[.int .i64 1, .bool false, .bool false], .int .u8 c] w _
    by_cases h0 : c = 111
    · subst h0
      have HJ : Hid (nx 2 111 = 5) := rfl
      go_enter Try.func104, Try.ntmps104
      go_wp2_with fail
      exact bodyPost_ret (v := .tuple #[.agg #[.int .i64 0, .bool false, .bool false], .bool false]) (by simp [results, Try.results104, go_sem]) rfl ⟨by rw [HJ.out]; rfl, by
        have h0 := HBB.out
        repeat (with_reducible first | exact h0 _ _ | refine Below.setCell ?_ (by dsimp only; omega) _)⟩
    have g0 : (c == 111) = false := by simp [h0]
    by_cases h1 : c = 114
    · subst h1
      have HJ : Hid (nx 2 114 = 5) := rfl
      clear h0 g0
      go_enter Try.func104, Try.ntmps104
      go_wp2_with fail
      exact bodyPost_ret (v := .tuple #[.agg #[.int .i64 0, .bool false, .bool false], .bool false]) (by simp [results, Try.results104, go_sem]) rfl ⟨by rw [HJ.out]; rfl, by
        have h0 := HBB.out
        repeat (with_reducible first | exact h0 _ _ | refine Below.setCell ?_ (by dsimp only; omega) _)⟩
    have g1 : (c == 114) = false := by simp [h1]
    by_cases h2 : c = 97
    · subst h2
      have HJ : Hid (nx 2 97 = 5) := rfl
      clear h0 h1 g0 g1
      go_enter Try.func104, Try.ntmps104
      go_wp2_with fail
      exact bodyPost_ret (v := .tuple #[.agg #[.int .i64 0, .bool false, .bool false], .bool false]) (by simp [results, Try.results104, go_sem]) rfl ⟨by rw [HJ.out]; rfl, by
        have h0 := HBB.out
        repeat (with_reducible first | exact h0 _ _ | refine Below.setCell ?_ (by dsimp only; omega) _)⟩
    have g2 : (c == 97) = false := by simp [h2]
    by_cases h3 : c = 99
    · subst h3
      have HJ : Hid (nx 2 99 = 0) := rfl
      clear h0 h1 h2 g0 g1 g2
      go_enter Try.func104, Try.ntmps104
      go_wp2_with fail
      exact bodyPost_ret (v := .tuple #[.agg #[.int .i64 0, .bool false, .bool false], .bool true]) (by simp [results, Try.results104, go_sem]) rfl ⟨by rw [HJ.out]; rfl, by
        have h0 := HBB.out
        repeat (with_reducible first | exact h0 _ _ | refine Below.setCell ?_ (by dsimp only; omega) _)⟩
    have g3 : (c == 99) = false := by simp [h3]
    by_cases h4 : c = 101
    · subst h4
      have HJ : Hid (nx 2 101 = 3) := rfl
      clear h0 h1 h2 h3 g0 g1 g2 g3
      go_enter Try.func104, Try.ntmps104
      go_wp2_with fail
      exact bodyPost_ret (v := .tuple #[.agg #[.int .i64 2, .bool true, .bool false], .bool true]) (by simp [results, Try.results104, go_sem]) rfl ⟨by rw [HJ.out]; rfl, by
        have h0 := HBB.out
        repeat (with_reducible first | exact h0 _ _ | refine Below.setCell ?_ (by dsimp only; omega) _)⟩
    have g4 : (c == 101) = false := by simp [h4]
    by_cases h5 : c = 108
    · subst h5
      have HJ : Hid (nx 2 108 = 5) := rfl
      clear h0 h1 h2 h3 h4 g0 g1 g2 g3 g4
      go_enter Try.func104, Try.ntmps104
      go_wp2_with fail
      exact bodyPost_ret (v := .tuple #[.agg #[.int .i64 0, .bool false, .bool false], .bool false]) (by simp [results, Try.results104, go_sem]) rfl ⟨by rw [HJ.out]; rfl, by
        have h0 := HBB.out
        repeat (with_reducible first | exact h0 _ _ | refine Below.setCell ?_ (by dsimp only; omega) _)⟩
    have g5 : (c == 108) = false := by simp [h5]
    by_cases h6 : c = 102
    · subst h6
      have HJ : Hid (nx 2 102 = 5) := rfl
      clear h0 h1 h2 h3 h4 h5 g0 g1 g2 g3 g4 g5
      go_enter Try.func104, Try.ntmps104
      go_wp2_with fail
      exact bodyPost_ret (v := .tuple #[.agg #[.int .i64 0, .bool false, .bool false], .bool false]) (by simp [results, Try.results104, go_sem]) rfl ⟨by rw [HJ.out]; rfl, by
        have h0 := HBB.out
        repeat (with_reducible first | exact h0 _ _ | refine Below.setCell ?_ (by dsimp only; omega) _)⟩
    have g6 : (c == 102) = false := by simp [h6]
    have HJ : Hid (nx 2 c = 5) := by show _ = _; simp [nx, h0, h1, h2, h3, h4, h5, h6]
    clear h0 h1 h2 h3 h4 h5 h6
    go_enter Try.func104, Try.ntmps104
    go_wp2_with fail
    exact bodyPost_ret (v := .tuple #[.agg #[.int .i64 0, .bool false, .bool false], .bool false]) (by simp [results, Try.results104, go_sem]) rfl ⟨by rw [HJ.out]; rfl, by
      have h0 := HBB.out
      repeat (with_reducible first | exact h0 _ _ | refine Below.setCell ?_ (by dsimp only; omega) _)⟩
  · show Calls Try.prog 104 #[.agg #[.int .i64 2, .bool true, .bool false], .int .u8 c] w _
    by_cases h0 : c = 111
    · subst h0
      have HJ : Hid (nx 3 111 = 5) := rfl
      go_enter Try.func104, Try.ntmps104
      go_wp2_with fail
      exact bodyPost_ret (v := .tuple #[.agg #[.int .i64 0, .bool false, .bool false], .bool false]) (by simp [results, Try.results104, go_sem]) rfl ⟨by rw [HJ.out]; rfl, by
        have h0 := HBB.out
        repeat (with_reducible first | exact h0 _ _ | refine Below.setCell ?_ (by dsimp only; omega) _)⟩
    have g0 : (c == 111) = false := by simp [h0]
    by_cases h1 : c = 114
    · subst h1
      have HJ : Hid (nx 3 114 = 5) := rfl
      clear h0 g0
      go_enter Try.func104, Try.ntmps104
      go_wp2_with fail
      exact bodyPost_ret (v := .tuple #[.agg #[.int .i64 0, .bool false, .bool false], .bool false]) (by simp [results, Try.results104, go_sem]) rfl ⟨by rw [HJ.out]; rfl, by
        have h0 := HBB.out
        repeat (with_reducible first | exact h0 _ _ | refine Below.setCell ?_ (by dsimp only; omega) _)⟩
    have g1 : (c == 114) = false := by simp [h1]
    by_cases h2 : c = 97
    · subst h2
      have HJ : Hid (nx 3 97 = 5) := rfl
      clear h0 h1 g0 g1
      go_enter Try.func104, Try.ntmps104
      go_wp2_with fail
      exact bodyPost_ret (v := .tuple #[.agg #[.int .i64 0, .bool false, .bool false], .bool false]) (by simp [results, Try.results104, go_sem]) rfl ⟨by rw [HJ.out]; rfl, by
        have h0 := HBB.out
        repeat (with_reducible first | exact h0 _ _ | refine Below.setCell ?_ (by dsimp only; omega) _)⟩
    have g2 : (c == 97) = false := by simp [h2]
    by_cases h3 : c = 99
    · subst h3
      have HJ : Hid (nx 3 99 = 5) := rfl
      clear h0 h1 h2 g0 g1 g2
      go_enter Try.func104, Try.ntmps104
      go_wp2_with fail
      exact bodyPost_ret (v := .tuple #[.agg #[.int .i64 0, .bool false, .bool false], .bool false]) (by simp [results, Try.results104, go_sem]) rfl ⟨by rw [HJ.out]; rfl, by
        have h0 := HBB.out
        repeat (with_reducible first | exact h0 _ _ | refine Below.setCell ?_ (by dsimp only; omega) _)⟩
    have g3 : (c == 99) = false := by simp [h3]
    by_cases h4 : c = 101
    · subst h4
      have HJ : Hid (nx 3 101 = 5) := rfl
      clear h0 h1 h2 h3 g0 g1 g2 g3
      go_enter Try.func104, Try.ntmps104
      go_wp2_with fail
      exact bodyPost_ret (v := .tuple #[.agg #[.int .i64 0, .bool false, .bool false], .bool false]) (by simp [results, Try.results104, go_sem]) rfl ⟨by rw [HJ.out]; rfl, by
        have h0 := HBB.out
        repeat (with_reducible first | exact h0 _ _ | refine Below.setCell ?_ (by dsimp only; omega) _)⟩
    have g4 : (c == 101) = false := by simp [h4]
    by_cases h5 : c = 108
    · subst h5
      have HJ : Hid (nx 3 108 = 4) := rfl
      clear h0 h1 h2 h3 h4 g0 g1 g2 g3 g4
      go_enter Try.func104, Try.ntmps104
      go_wp2_with fail
      exact bodyPost_ret (v := .tuple #[.agg #[.int .i64 2, .bool false, .bool false], .bool true]) (by simp [results, Try.results104, go_sem]) rfl ⟨by rw [HJ.out]; rfl, by
        have h0 := HBB.out
        repeat (with_reducible first | exact h0 _ _ | refine Below.setCell ?_ (by dsimp only; omega) _)⟩
    have g5 : (c == 108) = false := by simp [h5]
    by_cases h6 : c = 102
    · subst h6
      have HJ : Hid (nx 3 102 = 5) := rfl
      clear h0 h1 h2 h3 h4 h5 g0 g1 g2 g3 g4 g5
      go_enter Try.func104, Try.ntmps104
      go_wp2_with fail
      exact bodyPost_ret (v := .tuple #[.agg #[.int .i64 0, .bool false, .bool false], .bool false]) (by simp [results, Try.results104, go_sem]) rfl ⟨by rw [HJ.out]; rfl, by
        have h0 := HBB.out
        repeat (with_reducible first | exact h0 _ _ | refine Below.setCell ?_ (by dsimp only; omega) _)⟩
    have g6 : (c == 102) = false := by simp [h6]
    have HJ : Hid (nx 3 c = 5) := by show _ = _; simp [nx, h0, h1, h2, h3, h4, h5, h6]
    clear h0 h1 h2 h3 h4 h5 h6
    go_enter Try.func104, Try.ntmps104
    go_wp2_with fail
    exact bodyPost_ret (v := .tuple #[.agg #[.int .i64 0, .bool false, .bool false], .bool false]) (by simp [results, Try.results104, go_sem]) rfl ⟨by rw [HJ.out]; rfl, by
      have h0 := HBB.out
      repeat (with_reducible first | exact h0 _ _ | refine Below.setCell ?_ (by dsimp only; omega) _)⟩
  · show Calls Try.prog 104 #[.agg #[.int .i64 2, .bool false, .bool false], .int .u8 c] w _
    by_cases h0 : c = 111
    · subst h0
      have HJ : Hid (nx 4 111 = 5) := rfl
      go_enter Try.func104, Try.ntmps104
      go_wp2_with fail
      exact bodyPost_ret (v := .tuple #[.agg #[.int .i64 0, .bool false, .bool false], .bool false]) (by simp [results, Try.results104, go_sem]) rfl ⟨by rw [HJ.out]; rfl, by
        have h0 := HBB.out
        repeat (with_reducible first | exact h0 _ _ | refine Below.setCell ?_ (by dsimp only; omega) _)⟩
    have g0 : (c == 111) = false := by simp [h0]
    by_cases h1 : c = 114
    · subst h1
      have HJ : Hid (nx 4 114 = 5) := rfl
      clear h0 g0
      go_enter Try.func104, Try.ntmps104
      go_wp2_with fail
      exact bodyPost_ret (v := .tuple #[.agg #[.int .i64 0, .bool false, .bool false], .bool false]) (by simp [results, Try.results104, go_sem]) rfl ⟨by rw [HJ.out]; rfl, by
        have h0 := HBB.out
        repeat (with_reducible first | exact h0 _ _ | refine Below.setCell ?_ (by dsimp only; omega) _)⟩
    have g1 : (c == 114) = false := by simp [h1]
    by_cases h2 : c = 97
    · subst h2
      have HJ : Hid (nx 4 97 = 5) := rfl
      clear h0 h1 g0 g1
      go_enter Try.func104, Try.ntmps104
      go_wp2_with fail
      exact bodyPost_ret (v := .tuple #[.agg #[.int .i64 0, .bool false, .bool false], .bool false]) (by simp [results, Try.results104, go_sem]) rfl ⟨by rw [HJ.out]; rfl, by
        have h0 := HBB.out
        repeat (with_reducible first | exact h0 _ _ | refine Below.setCell ?_ (by dsimp only; omega) _)⟩
    have g2 : (c == 97) = false := by simp [h2]
    by_cases h3 : c = 99
    · subst h3
      have HJ : Hid (nx 4 99 = 5) := rfl
      clear h0 h1 h2 g0 g1 g2
      go_enter Try.func104, Try.ntmps104
      go_wp2_with fail
      exact bodyPost_ret (v := .tuple #[.agg #[.int .i64 0, .bool false, .bool false], .bool false]) (by simp [results, Try.results104, go_sem]) rfl ⟨by rw [HJ.out]; rfl, by
        have h0 := HBB.out
        repeat (with_reducible first | exact h0 _ _ | refine Below.setCell ?_ (by dsimp only; omega) _)⟩
    have g3 : (c == 99) = false := by simp [h3]
    by_cases h4 : c = 101
    · subst h4
      have HJ : Hid (nx 4 101 = 5) := rfl
      clear h0 h1 h2 h3 g0 g1 g2 g3
      go_enter Try.func104, Try.ntmps104
      go_wp2_with fail
      exact bodyPost_ret (v := .tuple #[.agg #[.int .i64 0, .bool false, .bool false], .bool false]) (by simp [results, Try.results104, go_sem]) rfl ⟨by rw [HJ.out]; rfl, by
        have h0 := HBB.out
        repeat (with_reducible first | exact h0 _ _ | refine Below.setCell ?_ (by dsimp only; omega) _)⟩
    have g4 : (c == 101) = false := by simp [h4]
    by_cases h5 : c = 108
    · subst h5
      have HJ : Hid (nx 4 108 = 5) := rfl
      clear h0 h1 h2 h3 h4 g0 g1 g2 g3 g4
      go_enter Try.func104, Try.ntmps104
      go_wp2_with fail
      exact bodyPost_ret (v := .tuple #[.agg #[.int .i64 0, .bool false, .bool false], .bool false]) (by simp [results, Try.results104, go_sem]) rfl ⟨by rw [HJ.out]; rfl, by
        have h0 := HBB.out
        repeat (with_reducible first | exact h0 _ _ | refine Below.setCell ?_ (by dsimp only; omega) _)⟩
    have g5 : (c == 108) = false := by simp [h5]
    by_cases h6 : c = 102
    · subst h6
      have HJ : Hid (nx 4 102 = 0) := rfl
      clear h0 h1 h2 h3 h4 h5 g0 g1 g2 g3 g4 g5
      go_enter Try.func104, Try.ntmps104
      go_wp2_with fail
      exact bodyPost_ret (v := .tuple #[.agg #[.int .i64 0, .bool false, .bool false], .bool true]) (by simp [results, Try.results104, go_sem]) rfl ⟨by rw [HJ.out]; rfl, by
        have h0 := HBB.out
        repeat (with_reducible first | exact h0 _ _ | refine Below.setCell ?_ (by dsimp only; omega) _)⟩
    have g6 : (c == 102) = false := by simp [h6]
    have HJ : Hid (nx 4 c = 5) := by show _ = _; simp [nx, h0, h1, h2, h3, h4, h5, h6]
    clear h0 h1 h2 h3 h4 h5 h6
    go_enter Try.func104, Try.ntmps104
    go_wp2_with fail
    exact bodyPost_ret (v := .tuple #[.agg #[.int .i64 0, .bool false, .bool false], .bool false]) (by simp [results, Try.results104, go_sem]) rfl ⟨by rw [HJ.out]; rfl, by
      have h0 := HBB.out
      repeat (with_reducible first | exact h0 _ _ | refine Below.setCell ?_ (by dsimp only; omega) _)⟩
end Go.Proofs.Ytokddeoliieofaa
