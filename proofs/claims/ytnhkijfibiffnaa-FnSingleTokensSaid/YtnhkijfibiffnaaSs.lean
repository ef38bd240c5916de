/-
  Walk: the laws' sameSingle on two copies of one line.
-/
import Derived.Test.YtnhkijfibiffnaaSm
import Derived.Test.YtnhkijfibiffnaaU
namespace Go.Proofs.Ytnhkijfibiffnaa
open Go.RowKit

theorem sameInts_zero (a1 a2 : Option Addr) (c1 c2 : Nat) (w : World) :
    Calls Try.prog 36 #[.slice a1 0 c1, .slice a2 0 c2] w fun e w' => e = .returned (.bool true) ∧ Dr w w' := by
  go_enter Try.func36, Try.ntmps36
  go_wp2
  go_loopw [5] (fun i wr => i = .int .i64 0 ∧ Dr w wr) (fun _ _ => 0)
  case atStart => exact ⟨rfl, Dr.refl _⟩
  case round =>
    obtain ⟨rfl, q, rfl⟩ := hrel
    go_wp2
    go_ret
    exact ⟨rfl, (by repeat (first | exact Dr.refl _ | exact ⟨_, rfl⟩ | refine Dr.drewN ?_ _))⟩
theorem sameInts_SL (v u : Value) (n : Nat) (f : Nat → Int) (w : World) (hn : n ≤ 1000000000000000) (hv : SL w v n f) (hu : SL w u n f) :
    Calls Try.prog 36 #[v, u] w fun e w' => e = .returned (.bool true) ∧ Dr w w' := by
  rcases hv with ⟨b, o, c, rfl, h⟩ | ⟨rfl, ao, co, rfl⟩
  · rcases hu with ⟨b', o', c', rfl, h'⟩ | ⟨rfl, ao', co', rfl⟩
    · exact (sameInts_any b o n c b' o' n c' f f w hn hn h h').mono fun e w' ⟨h1, h2⟩ => ⟨by rw [h1, eqSl_true.2 ⟨rfl, fun _ _ => rfl⟩], h2⟩
    · exact sameInts_zero _ _ _ _ w
  · rcases hu with ⟨b', o', c', rfl, h'⟩ | ⟨_, ao', co', rfl⟩
    · exact sameInts_zero _ _ _ _ w
    · exact sameInts_zero _ _ _ _ w
theorem sameSingle_any (v u : Value) (x : Sg) (w : World) (hv : SgN w v x) (hu : SgN w u x) (ha : x.na ≤ 1000000000000000) (hb : x.nb ≤ 1000000000000000) :
    Calls Try.prog 33 #[v, u] w fun e w' => e = .returned (.bool true) ∧ Below w.heap.size w w' := by
  obtain ⟨va, vb, rfl, h1, h2⟩ := hv
  obtain ⟨ua, ub, rfl, h3, h4⟩ := hu
  have hbb : ∀ a b, Below w.heap.size w ((w.alloc a).alloc b) := fun a b => ((Below.refl _ _).alloc (Nat.le_refl _) _).alloc (by simp) _
  have HB := Lib.hid hbb
  clear hbb
  have geq : ∀ a : Int, (a == a) = true := fun a => by simp
  go_enter Try.func33, Try.ntmps33
  go_wp2_with fail
  refine (sameInts_SL _ _ _ x.A _ ha (h1.keep (HB.out _ _)) (h3.keep (HB.out _ _))).mono ?_
  rintro e w1 ⟨rfl, q1, rfl⟩
  go_wp2_with fail
  refine (sameInts_SL _ _ _ x.B _ hb (h2.keep (below_drewN (HB.out _ _) _)) (h4.keep (below_drewN (HB.out _ _) _))).mono ?_
  rintro e w1 ⟨rfl, q2, rfl⟩
  go_wp2_with fail
  go_ret
  exact ⟨rfl, (HB.out _ _).trans (below_dr (by repeat (first | exact Dr.refl _ | exact ⟨_, rfl⟩ | refine Dr.drewN ?_ _)) _)⟩
end Go.Proofs.Ytnhkijfibiffnaa
