/-
  Walks of the helpers of the exact laws on single lines: copies, sizes, equality, marks.
-/
import Derived.Test.YtdmofgogpdodfaaA
namespace Go.Proofs.Ytdmofgogpdodfaa
open Go.RowKit

theorem toIntS_any (b off n c : Nat) (f : Nat → Int) (w : World) (hn : n ≤ 1000000000000) (hc : IC w b off n f) :
    Calls Try.prog 50 #[.slice (some ⟨b, off, none⟩) n c] w fun e w' => ∃ g c', e = .returned (.slice (some ⟨g, 0, none⟩) n c') ∧ w.heap.size ≤ g ∧ Own w' g c' n 1 3 (fun i => .int .i64 (f i)) ∧ Below w.heap.size w w' := by
  have hmk := fun w => run_mk elInt n n (Nat.le_refl _) (by omega) (by omega) w
  go_enter Try.func50, Try.ntmps50
  go_wp2
  go_loopw [4] (fun i wr => ∃ k : Nat, k ≤ n ∧ i = .int .i64 k ∧ Own wr w.heap.size n n 1 3 (fun i => if i < k then .int .i64 (f i) else .int .i64 0) ∧ Below w.heap.size w wr) (fun i _ => n - (intOf i).toNat)
  case atStart => exact ⟨0, Nat.zero_le _, rfl, (own_full1 w _ n _ (by unfold maxLen; omega)), (Below.refl _ _).alloc (Nat.le_refl _) _⟩
  case round =>
    obtain ⟨k, hk, rfl, hown, hb⟩ := hrel
    by_cases hlt : k < n
    · have hck := (hc.keep hb).at k hlt
      have hcg := hown.cell1 hlt
      have hfg := hown.free k
      have HO := Lib.hid hown
      clear hown
      go_wp2
      go_roundw
      case rel => exact ⟨k + 1, by omega, by go_num, (HO.out.set k _).congr (fun i hi => by
        by_cases e : i = k
        · subst e; simp
        · have : i < k + 1 ↔ i < k := by omega
          simp [e, this]), hb.setCell (Nat.le_refl _) _⟩
      case measure => simp [intOf]; omega
    · have e : k = n := by omega
      subst e
      go_wp2
      go_ret
      exact ⟨_, _, rfl, Nat.le_refl _, hown.congr (fun i hi => by rw [if_pos (by omega)]), hb⟩

theorem toIntS_SL (v : Value) (n : Nat) (f : Nat → Int) (w : World) (hn : n ≤ 1000000000000) (hv : SL w v n f) :
    Calls Try.prog 50 #[v] w fun e w' => ∃ g c', e = .returned (.slice (some ⟨g, 0, none⟩) n c') ∧ w.heap.size ≤ g ∧ Own w' g c' n 1 3 (fun i => .int .i64 (f i)) ∧ Below w.heap.size w w' := by
  rcases hv with ⟨b, o, c, rfl, h⟩ | ⟨rfl, ao, co, rfl⟩
  · exact toIntS_any b o n c f w hn h
  · have hmk : ∀ w, (Instr.makeSlice 22 (.int .i64 0) (.int .i64 0)).run Try.prog w = .ok (.slice (some ⟨w.heap.size, 0, none⟩) 0 0) (w.alloc (.cells (madeCells #[.int .i64 0] 0) 3)) := fun w => run_mk elInt 0 0 (Nat.le_refl _) (by omega) (by omega) w
    go_enter Try.func50, Try.ntmps50
    go_wp2
    go_loop [4] (fun i => i = .int .i64 0) (fun _ => 0)
    case atStart => rfl
    case round =>
      subst hrel
      go_wp2
      go_ret
      exact ⟨_, _, rfl, Nat.le_refl _, (own_full1 w _ 0 _ (by unfold maxLen; omega)).congr (fun i hi => by omega), (Below.refl _ _).alloc (Nat.le_refl _) _⟩

theorem markIntS_any (g c n : Nat) (f : Nat → Int) (m : Int) (w : World) (hn : n ≤ 1000000000) (h0 : 0 ≤ m) (h1 : m ≤ 1000000000) (ho : Own w g c n 1 3 (fun i => .int .i64 (f i))) :
    Calls Try.prog 39 #[.slice (some ⟨g, 0, none⟩) n c, .int .i64 m] w fun e w' => e = .returned (.int .i64 (m + n)) ∧ Own w' g c n 1 3 (fun i => .int .i64 (m + i)) ∧ w.grownBy w' (some g) := by
  go_enter Try.func39, Try.ntmps39
  go_wp2
  go_loopw [1, 5] (fun l i wr => ∃ k : Nat, k ≤ n ∧ i = .int .i64 k ∧ l = .int .i64 (m + k) ∧ Own wr g c n 1 3 (fun i => if i < k then .int .i64 (m + i) else .int .i64 (f i)) ∧ w.grownBy wr (some g)) (fun _ i _ => n - (intOf i).toNat)
  case atStart => exact ⟨0, Nat.zero_le _, rfl, by go_num, ho, World.grownBy.refl _ _⟩
  case round =>
    obtain ⟨k, hk, rfl, rfl, hown, hb⟩ := hrel
    by_cases hlt : k < n
    · have hcg := hown.cell1 hlt
      have hfg := hown.free k
      have HO := Lib.hid hown
      clear hown ho
      go_wp2
      go_roundw
      case rel => exact ⟨k + 1, by omega, by go_num, by go_num, (HO.out.set k _).congr (fun i hi => by
        by_cases e : i = k
        · subst e; simp
        · have : i < k + 1 ↔ i < k := by omega
          simp [e, this]), grownBy_trans hb (grownBy_setCell _ _ _ _)⟩
      case measure => simp [intOf]; omega
    · have e : k = n := by omega
      subst e
      go_wp2
      go_ret
      exact ⟨rfl, hown.congr (fun i hi => by rw [if_pos (by omega)]), hb⟩

/-- what heldIntS answers -/
def heldV (f : Nat → Int) (n : Nat) (m : Int) : Int := if allB n (fun k => f k == m + k) = true then m + n else -1
theorem heldV_yes {f : Nat → Int} {n : Nat} {m : Int} (h : ∀ k, k < n → (f k == m + k) = true) : heldV f n m = m + n := if_pos (allB_of h)
theorem heldV_no {f : Nat → Int} {n k : Nat} {m : Int} (hk : k < n) (h : (f k == m + k) = false) : heldV f n m = -1 := if_neg (by rw [allB_not hk h]; simp)

theorem heldIntS_any (b off n c : Nat) (f : Nat → Int) (m : Int) (w : World) (hn : n ≤ 1000000000) (h0 : 0 ≤ m) (h1 : m ≤ 1000000000) (hc : IC w b off n f) :
    Calls Try.prog 40 #[.slice (some ⟨b, off, none⟩) n c, .int .i64 m] w fun e w' => e = .returned (.int .i64 (heldV f n m)) ∧ w = w' := by
  go_enter Try.func40, Try.ntmps40
  go_wp2
  go_loop [1, 5] (fun l i => ∃ k : Nat, k ≤ n ∧ i = .int .i64 k ∧ l = .int .i64 (m + k) ∧ ∀ j, j < k → (f j == m + j) = true) (fun _ i => n - (intOf i).toNat)
  case atStart => exact ⟨0, Nat.zero_le _, rfl, by go_num, fun j hj => by omega⟩
  case round =>
    obtain ⟨k, hk, rfl, rfl, hall⟩ := hrel
    have HA := Lib.hid hall
    clear hall
    have hck := hc.at k
    by_cases hlt : k < n
    · cases hr : (f k == m + k)
      · have h2 : (f k != m + k) = true := by simp at hr; simp [hr]
        have HR := Lib.hid hr
        clear hr
        go_wp2
        go_ret
        exact ⟨retI (heldV_no hlt HR.out).symm, rfl⟩
      · have h2 : (f k != m + k) = false := by simp at hr; simp [hr]
        have HR := Lib.hid hr
        clear hr
        go_wp2
        go_round
        case rel => exact ⟨k + 1, by omega, by go_num, by go_num, fun j hj => by
          by_cases e : j = k
          · rw [e]; exact HR.out
          · exact HA.out j (by omega)⟩
        case measure => simp [intOf]; omega
    · have e : k = n := by omega
      subst e
      go_wp2
      go_ret
      exact ⟨retI (heldV_yes HA.out).symm, rfl⟩

/-- what a single line holds -/
structure Sg where
  A : Nat → Int
  na : Nat
  B : Nat → Int
  nb : Nat
  run : Int
  head : Int

/-- the value v is a single line that reads as x in w -/
def SgV (w : World) (v : Value) (x : Sg) : Prop :=
  ∃ ba oa ca bb ob cb, v = .agg #[.slice (some ⟨ba, oa, none⟩) x.na ca, .slice (some ⟨bb, ob, none⟩) x.nb cb, .int .i64 x.run, .int .i64 x.head] ∧ IC w ba oa x.na x.A ∧ IC w bb ob x.nb x.B
theorem SgV.keep {w w' : World} {v : Value} {x : Sg} (h : SgV w v x) (hb : Below w.heap.size w w') : SgV w' v x := by
  obtain ⟨ba, oa, ca, bb, ob, cb, e, h1, h2⟩ := h
  exact ⟨ba, oa, ca, bb, ob, cb, e, h1.keep hb, h2.keep hb⟩
/-- it lies in new memory from block base on, its two rows apart -/
def SgF (base : Nat) (w : World) (v : Value) (x : Sg) : Prop :=
  ∃ ga ca gb cb, v = .agg #[.slice (some ⟨ga, 0, none⟩) x.na ca, .slice (some ⟨gb, 0, none⟩) x.nb cb, .int .i64 x.run, .int .i64 x.head] ∧ base ≤ ga ∧ base ≤ gb ∧ ga ≠ gb ∧
    Own w ga ca x.na 1 3 (fun i => .int .i64 (x.A i)) ∧ Own w gb cb x.nb 1 3 (fun i => .int .i64 (x.B i))
theorem SgF.reads {base : Nat} {w : World} {v : Value} {x : Sg} (h : SgF base w v x) : SgV w v x := by
  obtain ⟨ga, ca, gb, cb, e, _, _, _, h1, h2⟩ := h
  exact ⟨ga, 0, ca, gb, 0, cb, e, IC.of_own h1, IC.of_own h2⟩
theorem SgF.keep {base : Nat} {w w' : World} {v : Value} {x : Sg} (h : SgF base w v x) (hb : Below w.heap.size w w') : SgF base w' v x := by
  obtain ⟨ga, ca, gb, cb, e, h3, h4, h5, h1, h2⟩ := h
  exact ⟨ga, ca, gb, cb, e, h3, h4, h5, h1.below hb h1.lt, h2.below hb h2.lt⟩

/-- what szSingle answers -/
def szSg (x : Sg) : Int := if x.na + x.nb ≤ 1048576 then 1048576 - x.na - x.nb else -1
/-- it reads as x; empty rows may be nil -/
def SgN (w : World) (v : Value) (x : Sg) : Prop := ∃ va vb, v = .agg #[va, vb, .int .i64 x.run, .int .i64 x.head] ∧ SL w va x.na x.A ∧ SL w vb x.nb x.B
theorem SgN.keep {w w' : World} {v : Value} {x : Sg} (h : SgN w v x) (hb : Below w.heap.size w w') : SgN w' v x := by
  obtain ⟨va, vb, e, h1, h2⟩ := h
  exact ⟨va, vb, e, h1.keep hb, h2.keep hb⟩
theorem SgV.n {w : World} {v : Value} {x : Sg} (h : SgV w v x) : SgN w v x := by
  obtain ⟨ba, oa, ca, bb, ob, cb, e, h1, h2⟩ := h
  exact ⟨_, _, e, .inl ⟨ba, oa, ca, rfl, h1⟩, .inl ⟨bb, ob, cb, rfl, h2⟩⟩

theorem szSingle_any (v : Value) (x : Sg) (w : World) (hv : SgN w v x) (ha : x.na ≤ 9223372036854775807) (hb : x.nb ≤ 9223372036854775807) :
    Calls Try.prog 15 #[v, .int .i64 1048576] w fun e w' => e = .returned (.int .i64 (szSg x)) ∧ Below w.heap.size w w' := by
  obtain ⟨va, vb, rfl, hva, hvb⟩ := hv
  obtain ⟨A, na, B, nb, run, head⟩ := x
  dsimp only at *
  obtain ⟨aoa, ca, rfl⟩ := hva.shape
  obtain ⟨aob, cb, rfl⟩ := hvb.shape
  clear hva hvb
  by_cases h1 : na ≤ 1048576
  · by_cases h2 : na + nb ≤ 1048576
    · have hs : szSg ⟨A, na, B, nb, run, head⟩ = 1048576 - na - nb := if_pos h2
      have HS := Lib.hid hs
      clear hs
      go_enter Try.func15, Try.ntmps15
      go_wp2_with fail
      refine (szIntS_any _ _ _ _ _ (by omega) (by omega) (by omega)).mono ?_
      rintro e w' ⟨rfl, rfl⟩
      rw [szV_pos (by omega)]
      go_wp2_with fail
      refine (szIntS_any _ _ _ _ _ (by omega) (by omega) (by omega)).mono ?_
      rintro e w' ⟨rfl, rfl⟩
      rw [szV_pos (by omega)]
      go_wp2_with fail
      go_ret
      exact ⟨retI HS.out.symm, (Below.refl _ _).alloc (Nat.le_refl _) _⟩
    · have hs : szSg ⟨A, na, B, nb, run, head⟩ = -1 := if_neg h2
      have HS := Lib.hid hs
      clear hs
      go_enter Try.func15, Try.ntmps15
      go_wp2_with fail
      refine (szIntS_any _ _ _ _ _ (by omega) (by omega) (by omega)).mono ?_
      rintro e w' ⟨rfl, rfl⟩
      rw [szV_pos (by omega)]
      go_wp2_with fail
      refine (szIntS_any _ _ _ _ _ (by omega) (by omega) (by omega)).mono ?_
      rintro e w' ⟨rfl, rfl⟩
      rw [szV_neg (by omega)]
      go_wp2_with fail
      go_ret
      exact ⟨retI HS.out.symm, (Below.refl _ _).alloc (Nat.le_refl _) _⟩
  · have hs : szSg ⟨A, na, B, nb, run, head⟩ = -1 := if_neg (by show ¬ na + nb ≤ 1048576; omega)
    have HS := Lib.hid hs
    clear hs
    go_enter Try.func15, Try.ntmps15
    go_wp2_with fail
    refine (szIntS_any _ _ _ _ _ (by omega) (by omega) (by omega)).mono ?_
    rintro e w' ⟨rfl, rfl⟩
    rw [szV_neg (by omega)]
    go_wp2_with fail
    go_ret
    exact ⟨retI HS.out.symm, (Below.refl _ _).alloc (Nat.le_refl _) _⟩

theorem below4 (w w1 : World) (a b c : Obj) {B : Nat} {p : Addr} {v : Value} (h : Below B (((w.alloc a).alloc b).alloc c) w1) (hp : w.heap.size ≤ p.block ∧ w.heap.size ≤ B) : Below w.heap.size w (w1.setCell p v) :=
  (((((Below.refl _ _).alloc (Nat.le_refl _) _).alloc (by simp) _).alloc (by simp; omega) _).trans (h.mono hp.2)).setCell hp.1 _

theorem toSingle_any (v : Value) (x : Sg) (w : World) (hv : SgN w v x) (ha : x.na ≤ 1000000000000) (hb : x.nb ≤ 1000000000000) :
    Calls Try.prog 17 #[v] w fun e w' => ∃ u, e = .returned u ∧ SgF w.heap.size w' u x ∧ Below w.heap.size w w' := by
  obtain ⟨va, vb, rfl, hca, hcb⟩ := hv
  obtain ⟨A, na, B, nb, run, head⟩ := x
  dsimp only at *
  go_enter Try.func17, Try.ntmps17
  go_wp2_with fail
  refine (toIntS_SL va _ A _ (by omega) (hca.keep ((((Below.refl _ _).alloc (Nat.le_refl _) _).alloc (by simp) _).alloc (by simp; omega) _))).mono ?_
  rintro e w1 ⟨g, c', rfl, hg, ho, hb1⟩
  obtain ⟨hc1, hf1⟩ := bcellN hb1 (w.heap.size + 3) (by simp)
  have hz1 := hb1.size
  have HO := Lib.hid ho
  have HB := Lib.hid hb1
  clear ho hb1
  simp only [World.size_alloc] at hg hz1
  go_wp2_with fail
  have hz2 : (w1.setCell ⟨w.heap.size + 1 + 1, 0, none⟩ (.slice (some ⟨g, 0, none⟩) na c')).heap.size = w1.heap.size := by simp [World.setCell]
  have HBB : Hid (Below w.heap.size w (w1.setCell ⟨w.heap.size + 1 + 1, 0, none⟩ (.slice (some ⟨g, 0, none⟩) na c'))) := below4 _ _ _ _ _ HB.out ⟨by show w.heap.size ≤ w.heap.size + 1 + 1; omega, by simp; omega⟩
  refine (toIntS_SL vb _ B _ (by omega) (hcb.keep HBB.out)).mono ?_
  rintro e w2 ⟨g2, c2, rfl, hg2, ho2, hb2⟩
  obtain ⟨hc2, hf2⟩ := bcellN hb2 (w.heap.size + 3) (by omega)
  have hz3 := hb2.size
  have HO2 := Lib.hid ho2
  have HB2 := Lib.hid hb2
  clear ho2 hb2
  rw [hz2] at hg2 hz3
  clear hz2
  go_wp2_with fail
  have hgl := HO.out.lt
  refine bodyPost_ret (v := .agg #[.slice (some ⟨g, 0, none⟩) na c', .slice (some ⟨g2, 0, none⟩) nb c2, .int .i64 run, .int .i64 head]) (by simp [results, Try.results17, go_sem, hc1, hc2]) rfl ⟨_, rfl, ⟨g, c', g2, c2, rfl, by omega, by omega, by omega, ?_, ?_⟩, ?_⟩
  · have h0 := (HO.out.setOther (a := ⟨w.heap.size + 1 + 1, 0, none⟩) (by show g ≠ w.heap.size + 1 + 1; omega) (.slice (some ⟨g, 0, none⟩) na c')).below HB2.out (Own.lt (HO.out.setOther (a := ⟨w.heap.size + 1 + 1, 0, none⟩) (by show g ≠ w.heap.size + 1 + 1; omega) (.slice (some ⟨g, 0, none⟩) na c')))
    repeat (with_reducible first | exact h0 | refine Own.setOther ?_ (by dsimp only; omega) _)
  · repeat (with_reducible first | exact HO2.out | refine Own.setOther ?_ (by dsimp only; omega) _)
  · have h0 := HBB.out.trans (HB2.out.mono (by have := HBB.out.size; omega))
    repeat (with_reducible first | exact h0 | refine Below.setCell ?_ (by dsimp only; omega) _)

theorem heldIntS_SL (v : Value) (n : Nat) (f : Nat → Int) (m : Int) (w : World) (hn : n ≤ 1000000000) (h0 : 0 ≤ m) (h1 : m ≤ 1000000000) (hv : SL w v n f) :
    Calls Try.prog 40 #[v, .int .i64 m] w fun e w' => e = .returned (.int .i64 (heldV f n m)) ∧ w = w' := by
  rcases hv with ⟨b, o, c, rfl, h⟩ | ⟨rfl, ao, co, rfl⟩
  · exact heldIntS_any b o n c f m w hn h0 h1 h
  · go_enter Try.func40, Try.ntmps40
    go_wp2
    go_loop [1, 5] (fun l i => l = .int .i64 m ∧ i = .int .i64 0) (fun _ _ => 0)
    case atStart => exact ⟨rfl, rfl⟩
    case round =>
      obtain ⟨rfl, rfl⟩ := hrel
      go_wp2
      go_ret
      exact ⟨retI (by rw [heldV_yes (fun k hk => by omega)]; simp), rfl⟩

/-- what eqSingle answers -/
def eqSg (x y : Sg) : Bool := eqSl x.na y.na x.A y.A && (eqSl x.nb y.nb x.B y.B && ((x.run == y.run) && (x.head == y.head)))

theorem eqSg_refl (x : Sg) : eqSg x x = true := by simp [eqSg, eqSl_true]

theorem eqSingle_any (v u : Value) (x y : Sg) (w : World) (hv : SgN w v x) (hu : SgN w u y) (ha : x.na ≤ 1000000000000000) (hb : x.nb ≤ 1000000000000000) (ha' : y.na ≤ 1000000000000000) (hb' : y.nb ≤ 1000000000000000) :
    Calls Try.prog 19 #[v, u] w fun e w' => e = .returned (.bool (eqSg x y)) ∧ Below w.heap.size w w' := by
  obtain ⟨va, vb, rfl, h1, h2⟩ := hv
  obtain ⟨ua, ub, rfl, h3, h4⟩ := hu
  obtain ⟨A, na, B, nb, run, head⟩ := x
  obtain ⟨A', na', B', nb', run', head'⟩ := y
  dsimp only at *
  have hbb : ∀ a b, Below w.heap.size w ((w.alloc a).alloc b) := fun a b => ((Below.refl _ _).alloc (Nat.le_refl _) _).alloc (by simp) _
  have key : ∀ r : Bool, r = eqSg ⟨A, na, B, nb, run, head⟩ ⟨A', na', B', nb', run', head'⟩ → ∀ W, (∃ a b, Dr ((w.alloc a).alloc b) W) → (Ending.returned (.bool r) = .returned (.bool (eqSg ⟨A, na, B, nb, run, head⟩ ⟨A', na', B', nb', run', head'⟩)) ∧ Below w.heap.size w W) :=
    fun r hr W ⟨a, b, hd⟩ => ⟨retB hr, (hbb a b).trans (below_dr hd _)⟩
  have K := Lib.hid key
  clear key
  have HB := Lib.hid hbb
  clear hbb
  go_enter Try.func19, Try.ntmps19
  go_wp2_with fail
  refine (eqIntS_SL _ _ _ _ A A' _ ha ha' (h1.keep (HB.out _ _)) (h3.keep (HB.out _ _))).mono ?_
  rintro e w1 ⟨rfl, q1, rfl⟩
  cases hE1 : eqSl na na' A A'
  · have HE1 := Lib.hid hE1
    clear hE1
    go_wp2_with fail
    go_ret
    exact K.out false (by simp [eqSg, HE1.out]) _ ⟨_, _, (by repeat (first | exact Dr.refl _ | exact ⟨_, rfl⟩ | refine Dr.drewN ?_ _))⟩
  have HE1 := Lib.hid hE1
  clear hE1
  go_wp2_with fail
  refine (eqIntS_SL _ _ _ _ B B' _ hb hb' (h2.keep (below_drewN (HB.out _ _) _)) (h4.keep (below_drewN (HB.out _ _) _))).mono ?_
  rintro e w1 ⟨rfl, q2, rfl⟩
  cases hE2 : eqSl nb nb' B B'
  · have HE2 := Lib.hid hE2
    clear hE2
    go_wp2_with fail
    go_ret
    exact K.out false (by simp [eqSg, HE1.out, HE2.out]) _ ⟨_, _, (by repeat (first | exact Dr.refl _ | exact ⟨_, rfl⟩ | refine Dr.drewN ?_ _))⟩
  have HE2 := Lib.hid hE2
  clear hE2
  cases hE3 : (run == run')
  · have hr : (run != run') = true := by simp at hE3; simp [hE3]
    have HE3 := Lib.hid hE3
    clear hE3
    go_wp2_with fail
    go_ret
    exact K.out false (by simp only [eqSg, HE1.out, HE2.out, HE3.out]; rfl) _ ⟨_, _, (by repeat (first | exact Dr.refl _ | exact ⟨_, rfl⟩ | refine Dr.drewN ?_ _))⟩
  have hr : (run != run') = false := by simp at hE3; simp [hE3]
  have HE3 := Lib.hid hE3
  clear hE3
  cases hE4 : (head == head')
  · have hr4 : (head != head') = true := by simp at hE4; simp [hE4]
    have HE4 := Lib.hid hE4
    clear hE4
    go_wp2_with fail
    go_ret
    exact K.out false (by simp only [eqSg, HE1.out, HE2.out, HE3.out, HE4.out]; rfl) _ ⟨_, _, (by repeat (first | exact Dr.refl _ | exact ⟨_, rfl⟩ | refine Dr.drewN ?_ _))⟩
  have hr4 : (head != head') = false := by simp at hE4; simp [hE4]
  have HE4 := Lib.hid hE4
  clear hE4
  go_wp2_with fail
  go_ret
  exact K.out true (by simp only [eqSg, HE1.out, HE2.out, HE3.out, HE4.out]; rfl) _ ⟨_, _, (by repeat (first | exact Dr.refl _ | exact ⟨_, rfl⟩ | refine Dr.drewN ?_ _))⟩
end Go.Proofs.Ytdmofgogpdodfaa
