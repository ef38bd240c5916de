/-
  Walks of the helpers of the exact laws on single lines: copies, sizes, equality, marks.
-/
import Derived.Test.YtokddeoliieofaaA
namespace Go.Proofs.Ytokddeoliieofaa
open Go.RowKit

theorem markIntS_any (g c n : Nat) (f : Nat → Int) (m : Int) (w : World) (hn : n ≤ 1000000000) (h0 : 0 ≤ m) (h1 : m ≤ 1000000000) (ho : Own w g c n 1 3 (fun i => .int .i64 (f i))) :
    Calls Try.prog 25 #[.slice (some ⟨g, 0, none⟩) n c, .int .i64 m] w fun e w' => e = .returned (.int .i64 (m + n)) ∧ Own w' g c n 1 3 (fun i => .int .i64 (m + i)) ∧ w.grownBy w' (some g) := by
  go_enter Try.func25, Try.ntmps25
  go_wp2
  go_loopw [1, 5] (fun l i wr => ∃ k : Nat, k ≤ n ∧ i = .int .i64 k ∧ l = .int .i64 (m + k) ∧ Own wr g c n 1 3 (fun i => if i < k then .int .i64 (m + i) else .int .i64 (f i)) ∧ w.grownBy wr (some g)) (fun _ i _ => n - (intOf i).toNat)
  case atStart => exact ⟨0, Nat.zero_le _, rfl, by go_num, ho, World.grownBy.refl _ _⟩
  case round =>
    obtain ⟨k, hk, rfl, rfl, hown, hb⟩ := hrel
    by_cases hlt : k < n
    · have hcg := hown.cell1 hlt
      have hfg := hown.free k
      have HO := Lib.hid hown
      clear hown ho
      go_wp2
      go_roundw
      case rel => exact ⟨k + 1, by omega, by go_num, by go_num, (HO.out.set k _).congr (fun i hi => by
        by_cases e : i = k
        · subst e; simp
        · have : i < k + 1 ↔ i < k := by omega
          simp [e, this]), grownBy_trans hb (grownBy_setCell _ _ _ _)⟩
      case measure => simp [intOf]; omega
    · have e : k = n := by omega
      subst e
      go_wp2
      go_ret
      exact ⟨rfl, hown.congr (fun i hi => by rw [if_pos (by omega)]), hb⟩

/-- what heldIntS answers -/
def heldV (f : Nat → Int) (n : Nat) (m : Int) : Int := if allB n (fun k => f k == m + k) = true then m + n else -1
theorem heldV_yes {f : Nat → Int} {n : Nat} {m : Int} (h : ∀ k, k < n → (f k == m + k) = true) : heldV f n m = m + n := if_pos (allB_of h)
theorem heldV_no {f : Nat → Int} {n k : Nat} {m : Int} (hk : k < n) (h : (f k == m + k) = false) : heldV f n m = -1 := if_neg (by rw [allB_not hk h]; simp)

theorem heldIntS_any (b off n c : Nat) (f : Nat → Int) (m : Int) (w : World) (hn : n ≤ 1000000000) (h0 : 0 ≤ m) (h1 : m ≤ 1000000000) (hc : IC w b off n f) :
    Calls Try.prog 26 #[.slice (some ⟨b, off, none⟩) n c, .int .i64 m] w fun e w' => e = .returned (.int .i64 (heldV f n m)) ∧ w = w' := by
  go_enter Try.func26, Try.ntmps26
  go_wp2
  go_loop [1, 5] (fun l i => ∃ k : Nat, k ≤ n ∧ i = .int .i64 k ∧ l = .int .i64 (m + k) ∧ ∀ j, j < k → (f j == m + j) = true) (fun _ i => n - (intOf i).toNat)
  case atStart => exact ⟨0, Nat.zero_le _, rfl, by go_num, fun j hj => by omega⟩
  case round =>
    obtain ⟨k, hk, rfl, rfl, hall⟩ := hrel
    have HA := Lib.hid hall
    clear hall
    have hck := hc.at k
    by_cases hlt : k < n
    · cases hr : (f k == m + k)
      · have h2 : (f k != m + k) = true := by simp at hr; simp [hr]
        have HR := Lib.hid hr
        clear hr
        go_wp2
        go_ret
        exact ⟨retI (heldV_no hlt HR.out).symm, rfl⟩
      · have h2 : (f k != m + k) = false := by simp at hr; simp [hr]
        have HR := Lib.hid hr
        clear hr
        go_wp2
        go_round
        case rel => exact ⟨k + 1, by omega, by go_num, by go_num, fun j hj => by
          by_cases e : j = k
          · rw [e]; exact HR.out
          · exact HA.out j (by omega)⟩
        case measure => simp [intOf]; omega
    · have e : k = n := by omega
      subst e
      go_wp2
      go_ret
      exact ⟨retI (heldV_yes HA.out).symm, rfl⟩

/-- what a single line holds -/
structure Sg where
  A : Nat → Int
  na : Nat
  B : Nat → Int
  nb : Nat
  run : Int
  head : Int

/-- the value v is a single line that reads as x in w -/
def SgV (w : World) (v : Value) (x : Sg) : Prop :=
  ∃ ba oa ca bb ob cb, v = .agg #[.slice (some ⟨ba, oa, none⟩) x.na ca, .slice (some ⟨bb, ob, none⟩) x.nb cb, .int .i64 x.run, .int .i64 x.head] ∧ IC w ba oa x.na x.A ∧ IC w bb ob x.nb x.B
theorem SgV.keep {w w' : World} {v : Value} {x : Sg} (h : SgV w v x) (hb : Below w.heap.size w w') : SgV w' v x := by
  obtain ⟨ba, oa, ca, bb, ob, cb, e, h1, h2⟩ := h
  exact ⟨ba, oa, ca, bb, ob, cb, e, h1.keep hb, h2.keep hb⟩
/-- it lies in new memory from block base on, its two rows apart -/
def SgF (base : Nat) (w : World) (v : Value) (x : Sg) : Prop :=
  ∃ ga ca gb cb, v = .agg #[.slice (some ⟨ga, 0, none⟩) x.na ca, .slice (some ⟨gb, 0, none⟩) x.nb cb, .int .i64 x.run, .int .i64 x.head] ∧ base ≤ ga ∧ base ≤ gb ∧ ga ≠ gb ∧
    Own w ga ca x.na 1 3 (fun i => .int .i64 (x.A i)) ∧ Own w gb cb x.nb 1 3 (fun i => .int .i64 (x.B i))
theorem SgF.reads {base : Nat} {w : World} {v : Value} {x : Sg} (h : SgF base w v x) : SgV w v x := by
  obtain ⟨ga, ca, gb, cb, e, _, _, _, h1, h2⟩ := h
  exact ⟨ga, 0, ca, gb, 0, cb, e, IC.of_own h1, IC.of_own h2⟩
theorem SgF.keep {base : Nat} {w w' : World} {v : Value} {x : Sg} (h : SgF base w v x) (hb : Below w.heap.size w w') : SgF base w' v x := by
  obtain ⟨ga, ca, gb, cb, e, h3, h4, h5, h1, h2⟩ := h
  exact ⟨ga, ca, gb, cb, e, h3, h4, h5, h1.below hb h1.lt, h2.below hb h2.lt⟩

/-- what szSingle answers -/
def szSg (x : Sg) : Int := if x.na + x.nb ≤ 1048576 then 1048576 - x.na - x.nb else -1
/-- it reads as x; empty rows may be nil -/
def SgN (w : World) (v : Value) (x : Sg) : Prop := ∃ va vb, v = .agg #[va, vb, .int .i64 x.run, .int .i64 x.head] ∧ SL w va x.na x.A ∧ SL w vb x.nb x.B
theorem SgN.keep {w w' : World} {v : Value} {x : Sg} (h : SgN w v x) (hb : Below w.heap.size w w') : SgN w' v x := by
  obtain ⟨va, vb, e, h1, h2⟩ := h
  exact ⟨va, vb, e, h1.keep hb, h2.keep hb⟩
theorem SgV.n {w : World} {v : Value} {x : Sg} (h : SgV w v x) : SgN w v x := by
  obtain ⟨ba, oa, ca, bb, ob, cb, e, h1, h2⟩ := h
  exact ⟨_, _, e, .inl ⟨ba, oa, ca, rfl, h1⟩, .inl ⟨bb, ob, cb, rfl, h2⟩⟩

theorem below4 (w w1 : World) (a b c : Obj) {B : Nat} {p : Addr} {v : Value} (h : Below B (((w.alloc a).alloc b).alloc c) w1) (hp : w.heap.size ≤ p.block ∧ w.heap.size ≤ B) : Below w.heap.size w (w1.setCell p v) :=
  (((((Below.refl _ _).alloc (Nat.le_refl _) _).alloc (by simp) _).alloc (by simp; omega) _).trans (h.mono hp.2)).setCell hp.1 _

theorem heldIntS_SL (v : Value) (n : Nat) (f : Nat → Int) (m : Int) (w : World) (hn : n ≤ 1000000000) (h0 : 0 ≤ m) (h1 : m ≤ 1000000000) (hv : SL w v n f) :
    Calls Try.prog 26 #[v, .int .i64 m] w fun e w' => e = .returned (.int .i64 (heldV f n m)) ∧ w = w' := by
  rcases hv with ⟨b, o, c, rfl, h⟩ | ⟨rfl, ao, co, rfl⟩
  · exact heldIntS_any b o n c f m w hn h0 h1 h
  · go_enter Try.func26, Try.ntmps26
    go_wp2
    go_loop [1, 5] (fun l i => l = .int .i64 m ∧ i = .int .i64 0) (fun _ _ => 0)
    case atStart => exact ⟨rfl, rfl⟩
    case round =>
      obtain ⟨rfl, rfl⟩ := hrel
      go_wp2
      go_ret
      exact ⟨retI (by rw [heldV_yes (fun k hk => by omega)]; simp), rfl⟩

/-- what eqSingle answers -/
def eqSg (x y : Sg) : Bool := eqSl x.na y.na x.A y.A && (eqSl x.nb y.nb x.B y.B && ((x.run == y.run) && (x.head == y.head)))

theorem eqSg_refl (x : Sg) : eqSg x x = true := by simp [eqSg, eqSl_true]

end Go.Proofs.Ytokddeoliieofaa
