/-
  BlockNormal and RegisterJoin of the program.
-/
import Derived.Test.YtokddeoliieofaaKt
namespace Go.Proofs.Ytokddeoliieofaa
open Go.RowKit

set_option linter.unusedSimpArgs false in
theorem blkNormal_any (t : ByteArray) (w : World) :
    Calls Try.prog 40 #[.string t] w fun e w' => e = .returned (.tuple #[.bool (decide (brJ 0 false false t = 0)), .bool (decide (brJ 0 false false t < 5))]) ∧ Below w.heap.size w w' := by
  have hle : brJ 0 false false t ≤ 5 := by
    unfold brJ
    split
    · exact rnS_le (stI_le _ _ _) _
    · omega
  generalize hj : brJ 0 false false t = j at *
  match j, hle with
  | 0, _ =>
    have HR : Hid (∀ W, Calls Try.prog 32 #[.agg #[.int .i64 0, .bool false, .bool false], .string t] W fun e w' => e = .returned (.tuple #[.agg #[.int .i64 0, .bool false, .bool false], .bool true]) ∧ Below W.heap.size W w') := fun W => (implRun_any 0 false false t W).mono fun e w' q => by rw [hj] at q; exact q
    go_enter Try.func40, Try.ntmps40
    go_wp2_with fail
    refine (HR.out _).mono ?_
    rintro e w1 ⟨rfl, hb1⟩
    have HB := Lib.hid hb1
    clear hb1
    go_wp2_with fail
    go_ret2
    exact ⟨rfl, HB.out.alloc HB.out.size _⟩
  | 1, _ =>
    have HR : Hid (∀ W, Calls Try.prog 32 #[.agg #[.int .i64 0, .bool false, .bool false], .string t] W fun e w' => e = .returned (.tuple #[.agg #[.int .i64 0, .bool false, .bool true], .bool true]) ∧ Below W.heap.size W w') := fun W => (implRun_any 0 false false t W).mono fun e w' q => by rw [hj] at q; exact q
    go_enter Try.func40, Try.ntmps40
    go_wp2_with fail
    refine (HR.out _).mono ?_
    rintro e w1 ⟨rfl, hb1⟩
    have HB := Lib.hid hb1
    clear hb1
    go_wp2_with fail
    go_ret2
    exact ⟨rfl, HB.out.alloc HB.out.size _⟩
  | 2, _ =>
    have HR : Hid (∀ W, Calls Try.prog 32 #[.agg #[.int .i64 0, .bool false, .bool false], .string t] W fun e w' => e = .returned (.tuple #[.agg #[.int .i64 1, .bool false, .bool false], .bool true]) ∧ Below W.heap.size W w') := fun W => (implRun_any 0 false false t W).mono fun e w' q => by rw [hj] at q; exact q
    go_enter Try.func40, Try.ntmps40
    go_wp2_with fail
    refine (HR.out _).mono ?_
    rintro e w1 ⟨rfl, hb1⟩
    have HB := Lib.hid hb1
    clear hb1
    go_wp2_with fail
    go_ret2
    exact ⟨rfl, HB.out.alloc HB.out.size _⟩
  | 3, _ =>
    have HR : Hid (∀ W, Calls Try.prog 32 #[.agg #[.int .i64 0, .bool false, .bool false], .string t] W fun e w' => e = .returned (.tuple #[.agg #[.int .i64 2, .bool true, .bool false], .bool true]) ∧ Below W.heap.size W w') := fun W => (implRun_any 0 false false t W).mono fun e w' q => by rw [hj] at q; exact q
    go_enter Try.func40, Try.ntmps40
    go_wp2_with fail
    refine (HR.out _).mono ?_
    rintro e w1 ⟨rfl, hb1⟩
    have HB := Lib.hid hb1
    clear hb1
    go_wp2_with fail
    go_ret2
    exact ⟨rfl, HB.out.alloc HB.out.size _⟩
  | 4, _ =>
    have HR : Hid (∀ W, Calls Try.prog 32 #[.agg #[.int .i64 0, .bool false, .bool false], .string t] W fun e w' => e = .returned (.tuple #[.agg #[.int .i64 2, .bool false, .bool false], .bool true]) ∧ Below W.heap.size W w') := fun W => (implRun_any 0 false false t W).mono fun e w' q => by rw [hj] at q; exact q
    go_enter Try.func40, Try.ntmps40
    go_wp2_with fail
    refine (HR.out _).mono ?_
    rintro e w1 ⟨rfl, hb1⟩
    have HB := Lib.hid hb1
    clear hb1
    go_wp2_with fail
    go_ret2
    exact ⟨rfl, HB.out.alloc HB.out.size _⟩
  | 5, _ =>
    have HR : Hid (∀ W, Calls Try.prog 32 #[.agg #[.int .i64 0, .bool false, .bool false], .string t] W fun e w' => e = .returned (.tuple #[.agg #[.int .i64 0, .bool false, .bool false], .bool false]) ∧ Below W.heap.size W w') := fun W => (implRun_any 0 false false t W).mono fun e w' q => by rw [hj] at q; exact q
    go_enter Try.func40, Try.ntmps40
    go_wp2_with fail
    refine (HR.out _).mono ?_
    rintro e w1 ⟨rfl, hb1⟩
    have HB := Lib.hid hb1
    clear hb1
    go_wp2_with fail
    go_ret2
    exact ⟨rfl, HB.out.alloc HB.out.size _⟩
end Go.Proofs.Ytokddeoliieofaa
