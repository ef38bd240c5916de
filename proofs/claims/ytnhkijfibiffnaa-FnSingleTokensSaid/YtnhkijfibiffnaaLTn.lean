/-
  The law FnSingleTurn: the walk.
-/
import Derived.Test.YtnhkijfibiffnaaSw
import Derived.Test.YtnhkijfibiffnaaTf
import Derived.Test.YtnhkijfibiffnaaSs
namespace Go.Proofs.Ytnhkijfibiffnaa
open Go.RowKit

theorem pasc_comm : ∀ a b : Nat, pasc a b = pasc b a
  | 0, b => by rw [pasc_left, pasc_right]
  | a + 1, 0 => by rw [pasc_left, pasc_right]
  | a + 1, b + 1 => by rw [pasc_step, pasc_step, pasc_comm a (b + 1), pasc_comm (a + 1) b]; omega
termination_by a b => a + b
theorem turn_many (x : Sg) : manyV (turnSg x) = manyV x := by
  cases h : sgOk x
  · rw [manyV_no h, manyV_no (by rw [turn_ok]; exact h)]
  · rw [manyV_yes h, manyV_yes (by rw [turn_ok]; exact h)]
    exact congrArg _ (pasc_comm _ _)
/-- two boxes that the law keeps -/
structure Bx2 (w : World) (W : World) (b3 b4 : Nat) (c3 c4 : Array Value) : Prop where
  x3 : Bx W b3 25 c3
  x4 : Bx W b4 25 c4
  bl : Below w.heap.size w W
theorem Bx2.below {w W W' : World} {b3 b4 B : Nat} {c3 c4 : Array Value} (h : Bx2 w W b3 b4 c3 c4) (hb : Below B W W') (hB : B = W.heap.size) : Bx2 w W' b3 b4 c3 c4 := by
  subst hB
  exact ⟨h.x3.below hb h.x3.lt, h.x4.below hb h.x4.lt, h.bl.trans (hb.mono h.bl.size)⟩
/-- the boxes and lines that the law keeps -/
structure TnM (w : World) (W : World) (b3 b4 : Nat) (c3 c4 : Array Value) (v v2 : Value) (x : Sg) : Prop where
  b : Bx2 w W b3 b4 c3 c4
  f : SgF w.heap.size W v x
  f2 : SgF w.heap.size W v2 (turnSg x)
theorem TnM.below {w W W' : World} {b3 b4 B : Nat} {c3 c4 : Array Value} {v v2 : Value} {x : Sg} (h : TnM w W b3 b4 c3 c4 v v2 x) (hb : Below B W W') (hB : B = W.heap.size) : TnM w W' b3 b4 c3 c4 v v2 x := by
  subst hB
  exact ⟨h.b.below hb rfl, h.f.keep hb, h.f2.keep hb⟩
theorem TnM.alloc {w W : World} {b3 b4 : Nat} {c3 c4 : Array Value} {v v2 : Value} {x : Sg} (h : TnM w W b3 b4 c3 c4 v v2 x) (o : Obj) : TnM w (W.alloc o) b3 b4 c3 c4 v v2 x := h.below (below_all _ _) rfl
/-- and a third one -/
structure TnX (w : World) (W : World) (b3 b4 b8 : Nat) (c3 c4 c8 : Array Value) (v v2 v8 : Value) (x : Sg) : Prop where
  m : TnM w W b3 b4 c3 c4 v v2 x
  x8 : Bx W b8 25 c8
  f8 : SgF w.heap.size W v8 x
theorem TnX.below {w W W' : World} {b3 b4 b8 B : Nat} {c3 c4 c8 : Array Value} {v v2 v8 : Value} {x : Sg} (h : TnX w W b3 b4 b8 c3 c4 c8 v v2 v8 x) (hb : Below B W W') (hB : B = W.heap.size) : TnX w W' b3 b4 b8 c3 c4 c8 v v2 v8 x := by
  subst hB
  exact ⟨h.m.below hb rfl, h.x8.below hb h.x8.lt, h.f8.keep hb⟩
theorem TnX.drew {w W : World} {b3 b4 b8 : Nat} {c3 c4 c8 : Array Value} {v v2 v8 : Value} {x : Sg} (h : TnX w W b3 b4 b8 c3 c4 c8 v v2 v8 x) : TnX w W.drew b3 b4 b8 c3 c4 c8 v v2 v8 x :=
  h.below (B := W.heap.size) (Below.refl _ W).drew rfl
theorem bx2_new {w w1 w2 : World} {c3 : Array Value} (hw : Below w.heap.size w w1) (hb : Below (w1.heap.size + 1) (w1.alloc (.cells c3 25)) w2) (c4 : Array Value) :
    Bx2 w (w2.alloc (.cells c4 25)) w1.heap.size w2.heap.size c3 c4 :=
  ⟨((Bx.new _ _ _).below hb (by omega)).alloc _, Bx.new _ _ _, (law_end hw hb).trans ((below_all _ _).mono (law_end hw hb).size)⟩
theorem sgn_zero (w : World) : SgN w (.agg #[.slice none 0 0, .slice none 0 0, .int .i64 0, .int .i64 0]) zeroSg := ⟨_, _, rfl, SL.nil, SL.nil⟩
theorem bx_after {w3 W' : World} {B : Nat} {t : TypeId} {cs : Array Value} (hb : Below B (w3.alloc (.cells cs t)) W') (hB : B = (w3.alloc (.cells cs t)).heap.size) : Bx W' w3.heap.size t cs := by
  subst hB
  exact (Bx.new _ _ _).below hb (by simp)
def tnA (x : Sg) (ga ca gb cb : Nat) : Array Value := #[.slice (some ⟨ga, 0, none⟩) x.na ca, .slice (some ⟨gb, 0, none⟩) x.nb cb, .int .i64 x.run, .int .i64 x.head]
set_option maxRecDepth 100000 in
set_option maxHeartbeats 4000000 in
theorem lawTurn_any3 (ao : Option Addr) (n c : Nat) (w : World) (hB : BSl w ao n) (hnc : n ≤ c) (hn : n ≤ 9223372036854775807) :
    Calls Try.prog 6 #[.slice ao n c] w fun e w' => e = .returned (.bool true) ∧ Below w.heap.size w w' := by
  have HBS := Lib.hid hB
  clear hB
  by_cases hlong : 1048576 < n
  · go_enter Try.func6, Try.ntmps6
    go_wp2_with fail
    go_ret
    exact ⟨rfl, Below.refl _ _⟩
  go_enter Try.func6, Try.ntmps6
  go_wp2_with fail
  refine (drawTurn_any ao n c _ hnc hn HBS.out).mono ?_
  rintro e w1 ⟨v, x, rfl, hF, hL, hb1⟩
  have HF := Lib.hid hF
  have HBw := Lib.hid hb1
  have hz1 := hb1.size
  have hna := hL.na
  have hnb := hL.nb
  have HLL := Lib.hid hL
  obtain ⟨ga, ca, gb, cb, rfl, _⟩ := hF
  clear hb1 hL
  have HB0 : Hid (Below (w1.heap.size + 1) (w1.alloc (.cells #[.slice (some ⟨ga, 0, none⟩) x.na ca, .slice (some ⟨gb, 0, none⟩) x.nb cb, .int .i64 x.run, .int .i64 x.head] 25)) (w1.alloc (.cells #[.slice (some ⟨ga, 0, none⟩) x.na ca, .slice (some ⟨gb, 0, none⟩) x.nb cb, .int .i64 x.run, .int .i64 x.head] 25))) := Below.refl _ _
  have hbx := box_cells HB0.out (by omega)
  go_wp2_with fail
  refine (implTurnF_any _ x _ (sg_at HF.out HB0.out) (by omega) (by omega)).mono ?_
  rintro e w2 ⟨v2, rfl, hF2, hZ2, hb2⟩
  have HB2 := Lib.hid (HB0.out.trans (hb2.mono (by have := HB0.out.size; simp at this ⊢ <;> omega)))
  clear hb2 hbx
  have hsz2 : w1.heap.size < w2.heap.size := by have := HB2.out.size; simp at this ⊢; omega
  have c3 := box_cells HB2.out (by omega)
  have gne : ∀ a : Int, (a != a) = false := fun a => by simp
  have geq : ∀ a : Int, (a == a) = true := fun a => by simp
  cases hs : sgOk x
  · obtain rfl := hZ2 hs
    clear hF2 hZ2
    have HS := Lib.hid hs
    clear hs
    have HM3 := Lib.hid (bx2_new HBw.out HB2.out #[.slice none 0 0, .slice none 0 0, .int .i64 0, .int .i64 0])
    have c4 := HM3.out.x4.cell
    have HSV : Hid (SgV (w2.alloc (.cells #[.slice none 0 0, .slice none 0 0, .int .i64 0, .int .i64 0] 25)) (.agg #[.slice (some ⟨ga, 0, none⟩) x.na ca, .slice (some ⟨gb, 0, none⟩) x.nb cb, .int .i64 x.run, .int .i64 x.head]) x) := (sg_at HF.out HB2.out).keep (below_all _ _)
    go_wp2_with fail
    refine (specTurn_any _ x _ HSV.out (by omega) (by omega)).mono ?_
    rintro e w3 ⟨v3, rfl, hI3, hb⟩
    rw [HS.out, if_neg (by simp)] at hI3
    have HI3 := Lib.hid hI3
    obtain ⟨r3, k3, r3', k3', rfl⟩ := hI3.shape
    have HM4 := Lib.hid (HM3.out.below hb rfl)
    clear hb c3 c4 hI3
    have c3 := HM4.out.x3.cell
    have c4 := HM4.out.x4.cell
    have hl3 := HM4.out.x3.lt
    have hl4 := HM4.out.x4.lt
    rw [HS.out]
    go_wp2_with fail
    refine (sameSingle_any _ _ zeroSg _ (sgn_zero _) (HI3.out.n.keep (below_all _ _)) (by decide) (by decide)).mono ?_
    rintro e w5 ⟨rfl, hb⟩
    have HM5 := Lib.hid ((HM4.out.below (below_all _ _) rfl).below hb rfl)
    have HX6 := Lib.hid (bx_after hb rfl)
    have HI5 := Lib.hid ((HI3.out.n.keep (below_all _ _)).keep hb)
    clear hb c3 c4
    have c3 := HM5.out.x3.cell
    have c4 := HM5.out.x4.cell
    have c6 := HX6.out.cell
    go_wp2_with fail
    refine (sameSingle_any _ _ zeroSg _ (sgn_zero _) HI5.out (by decide) (by decide)).mono ?_
    rintro e w6 ⟨rfl, hb⟩
    go_wp2_with fail
    go_ret
    exact ⟨rfl, HM5.out.bl.trans (hb.mono HM5.out.bl.size)⟩
  · have HF2 := Lib.hid (hF2 hs)
    have HST : Hid (sgOk (turnSg x) = true) := by rw [turn_ok]; exact hs
    obtain ⟨ga2, ca2, gb2, cb2, rfl, _⟩ := hF2 hs
    have HS := Lib.hid hs
    have hle := sgOk_le hs
    obtain ⟨hl1, hl2⟩ := hle
    clear hZ2 hs hF2
    have hl3 : (turnSg x).na ≤ 6 := hl2
    have hl4 : (turnSg x).nb ≤ 6 := hl1
    have hm0 : TnM w (w2.alloc (.cells #[.slice (some ⟨ga2, 0, none⟩) (turnSg x).na ca2, .slice (some ⟨gb2, 0, none⟩) (turnSg x).nb cb2, .int .i64 (turnSg x).run, .int .i64 (turnSg x).head] 25)) w1.heap.size w2.heap.size #[.slice (some ⟨ga, 0, none⟩) x.na ca, .slice (some ⟨gb, 0, none⟩) x.nb cb, .int .i64 x.run, .int .i64 x.head] #[.slice (some ⟨ga2, 0, none⟩) (turnSg x).na ca2, .slice (some ⟨gb2, 0, none⟩) (turnSg x).nb cb2, .int .i64 (turnSg x).run, .int .i64 (turnSg x).head] (.agg #[.slice (some ⟨ga, 0, none⟩) x.na ca, .slice (some ⟨gb, 0, none⟩) x.nb cb, .int .i64 x.run, .int .i64 x.head]) (.agg #[.slice (some ⟨ga2, 0, none⟩) (turnSg x).na ca2, .slice (some ⟨gb2, 0, none⟩) (turnSg x).nb cb2, .int .i64 (turnSg x).run, .int .i64 (turnSg x).head]) x :=
      ⟨bx2_new HBw.out HB2.out _, HF.out.keep ((below_all _ _).trans ((HB2.out.mono (by omega)).trans ((below_all _ _).mono (by omega)))), (HF2.out.keep (below_all _ _)).mono (by have := HBw.out.size; simp; omega)⟩
    have HM3 := Lib.hid hm0
    clear hm0
    have c4 := HM3.out.b.x4.cell
    go_wp2_with fail
    refine (specTurn_any _ x _ HM3.out.f.reads (by omega) (by omega)).mono ?_
    rintro e w3 ⟨v3, rfl, hI3, hb⟩
    rw [HS.out, if_pos rfl] at hI3
    have HI3 := Lib.hid hI3
    obtain ⟨r3, k3, r3', k3', rfl⟩ := hI3.shape
    clear hI3
    have HM4 := Lib.hid (HM3.out.below hb rfl)
    clear hb c3 c4
    have c3 := HM4.out.b.x3.cell
    have c4 := HM4.out.b.x4.cell
    have l3x4 := HM4.out.b.x3.lt
    have l4x4 := HM4.out.b.x4.lt
    rw [HS.out]
    go_wp2_with fail
    refine (sameSingle_any _ _ (turnSg x) _ (HM4.out.f2.reads.n.keep (below_all _ _)) (HI3.out.n.keep (below_all _ _)) (by omega) (by omega)).mono ?_
    rintro e w5 ⟨rfl, hb⟩
    have HMA4 := Lib.hid (HM4.out.alloc (.cells #[.slice r3 (turnSg x).na k3, .slice r3' (turnSg x).nb k3', .int .i64 (turnSg x).run, .int .i64 (turnSg x).head] 25))
    have HM5 := Lib.hid (HMA4.out.below hb rfl)
    clear hb c3 c4
    have c3 := HM5.out.b.x3.cell
    have c4 := HM5.out.b.x4.cell
    have l3x5 := HM5.out.b.x3.lt
    have l4x5 := HM5.out.b.x4.lt
    clear HI3 HMA4 HM4 HM3 l3x4 l4x4
    go_wp2_with fail
    refine (implTurnF_any _ (turnSg x) _ HM5.out.f2.reads (by omega) (by omega)).mono ?_
    rintro e w6 ⟨v8, rfl, hF8, _, hb⟩
    have HM6 := Lib.hid (HM5.out.below hb rfl)
    clear hb c3 c4
    have c3 := HM6.out.b.x3.cell
    have c4 := HM6.out.b.x4.cell
    have l3x6 := HM6.out.b.x3.lt
    have l4x6 := HM6.out.b.x4.lt
    have HF8 := Lib.hid (hF8 HST.out)
    obtain ⟨ga8, ca8, gb8, cb8, rfl, _⟩ := hF8 HST.out
    clear hF8
    have HM7 : Hid (TnX w (w6.alloc (.cells #[.slice (some ⟨ga8, 0, none⟩) (turnSg (turnSg x)).na ca8, .slice (some ⟨gb8, 0, none⟩) (turnSg (turnSg x)).nb cb8, .int .i64 (turnSg (turnSg x)).run, .int .i64 (turnSg (turnSg x)).head] 25)) w1.heap.size w2.heap.size w6.heap.size #[.slice (some ⟨ga, 0, none⟩) x.na ca, .slice (some ⟨gb, 0, none⟩) x.nb cb, .int .i64 x.run, .int .i64 x.head] #[.slice (some ⟨ga2, 0, none⟩) (turnSg x).na ca2, .slice (some ⟨gb2, 0, none⟩) (turnSg x).nb cb2, .int .i64 (turnSg x).run, .int .i64 (turnSg x).head] #[.slice (some ⟨ga8, 0, none⟩) (turnSg (turnSg x)).na ca8, .slice (some ⟨gb8, 0, none⟩) (turnSg (turnSg x)).nb cb8, .int .i64 (turnSg (turnSg x)).run, .int .i64 (turnSg (turnSg x)).head] (.agg #[.slice (some ⟨ga, 0, none⟩) x.na ca, .slice (some ⟨gb, 0, none⟩) x.nb cb, .int .i64 x.run, .int .i64 x.head]) (.agg #[.slice (some ⟨ga2, 0, none⟩) (turnSg x).na ca2, .slice (some ⟨gb2, 0, none⟩) (turnSg x).nb cb2, .int .i64 (turnSg x).run, .int .i64 (turnSg x).head]) (.agg #[.slice (some ⟨ga8, 0, none⟩) (turnSg (turnSg x)).na ca8, .slice (some ⟨gb8, 0, none⟩) (turnSg (turnSg x)).nb cb8, .int .i64 (turnSg (turnSg x)).run, .int .i64 (turnSg (turnSg x)).head]) x) :=
      ⟨HM6.out.alloc _, Bx.new _ _ _, (HF8.out.keep (below_all _ _)).mono (HM5.out.b.bl.size)⟩
    have c8 := HM7.out.x8.cell
    clear HF8
    go_wp2_with fail
    refine (implBest_any _ x _ HM7.out.m.f.reads (by omega) (by omega)).mono ?_
    rintro e w8 ⟨rfl, hb⟩
    have HM8 := Lib.hid (HM7.out.below hb rfl)
    clear hb c3 c4 c8
    have c3 := HM8.out.m.b.x3.cell
    have c4 := HM8.out.m.b.x4.cell
    have c8 := HM8.out.x8.cell
    have l3x8 := HM8.out.m.b.x3.lt
    have l4x8 := HM8.out.m.b.x4.lt
    have l8x8 := HM8.out.x8.lt
    rw [HS.out]
    have hbz : (bestS x).size ≤ 12 := by rw [bestS_yes HS.out, ordS_size]; omega
    have hbz2 : (bestS (turnSg x)).size ≤ 12 := by rw [bestS_yes HST.out, ordS_size]; omega
    clear HM5 HM6 l3x5 l4x5 l3x6 l4x6
    go_wp2_with fail
    refine (implBest_any _ (turnSg x) _ HM8.out.m.f2.reads (by omega) (by omega)).mono ?_
    rintro e w9 ⟨rfl, hb⟩
    have HM9 := Lib.hid (HM8.out.below hb rfl)
    clear hb c3 c4 c8
    have c3 := HM9.out.m.b.x3.cell
    have c4 := HM9.out.m.b.x4.cell
    have c8 := HM9.out.x8.cell
    have l3x9 := HM9.out.m.b.x3.lt
    have l4x9 := HM9.out.m.b.x4.lt
    have l8x9 := HM9.out.x8.lt
    rw [HST.out]
    go_wp2_with fail
    go_region_held3 (fun w' => w'.cell? ⟨w1.heap.size, 0, none⟩ = some (.slice (some ⟨ga, 0, none⟩) (x).na ca) ∧ w'.cell? ⟨w1.heap.size, 1, none⟩ = some (.slice (some ⟨gb, 0, none⟩) (x).nb cb) ∧ w'.cell? ⟨w1.heap.size, 2, none⟩ = some (.int .i64 (x).run) ∧ w'.cell? ⟨w1.heap.size, 3, none⟩ = some (.int .i64 (x).head) ∧ w'.cell? ⟨w2.heap.size, 0, none⟩ = some (.slice (some ⟨ga2, 0, none⟩) (turnSg x).na ca2) ∧ w'.cell? ⟨w2.heap.size, 1, none⟩ = some (.slice (some ⟨gb2, 0, none⟩) (turnSg x).nb cb2) ∧ w'.cell? ⟨w2.heap.size, 2, none⟩ = some (.int .i64 (turnSg x).run) ∧ w'.cell? ⟨w2.heap.size, 3, none⟩ = some (.int .i64 (turnSg x).head) ∧ w'.cell? ⟨w6.heap.size, 0, none⟩ = some (.slice (some ⟨ga8, 0, none⟩) (turnSg (turnSg x)).na ca8) ∧ w'.cell? ⟨w6.heap.size, 1, none⟩ = some (.slice (some ⟨gb8, 0, none⟩) (turnSg (turnSg x)).nb cb8) ∧ w'.cell? ⟨w6.heap.size, 2, none⟩ = some (.int .i64 (turnSg (turnSg x)).run) ∧ w'.cell? ⟨w6.heap.size, 3, none⟩ = some (.int .i64 (turnSg (turnSg x)).head)) (go_keep)
      (first | ((go_at_call 33); go_must (refine Calls.mono (sameSingle_any _ _ x _ (by first | exact HM9.out.f8.reads.n | exact HM9.out.drew.f8.reads.n | exact HM9.out.drew.drew.f8.reads.n | exact HM9.out.drew.drew.drew.f8.reads.n | exact HM9.out.drew.drew.drew.drew.f8.reads.n) (by first | exact HM9.out.m.f.reads.n | exact HM9.out.drew.m.f.reads.n | exact HM9.out.drew.drew.m.f.reads.n | exact HM9.out.drew.drew.drew.m.f.reads.n | exact HM9.out.drew.drew.drew.drew.m.f.reads.n) (by omega) (by omega)) ?_); rintro e w10 ⟨rfl, hb⟩; go_must (have HM10 := Lib.hid (by first | exact HM9.out.below hb rfl | exact HM9.out.drew.below hb rfl | exact HM9.out.drew.drew.below hb rfl | exact HM9.out.drew.drew.drew.below hb rfl | exact HM9.out.drew.drew.drew.drew.below hb rfl)); clear hb; have cc3 := HM10.out.m.b.x3.cell; have cc4 := HM10.out.m.b.x4.cell; have cc8 := HM10.out.x8.cell)
             | ((go_at_call_of 16 ga2); go_must (refine Calls.mono (implMany_any _ (turnSg x) _ (by first | exact HM10.out.m.f2.reads | exact HM10.out.drew.m.f2.reads | exact HM10.out.drew.drew.m.f2.reads | exact HM10.out.drew.drew.drew.m.f2.reads | exact HM10.out.drew.drew.drew.drew.m.f2.reads) (by omega) (by omega)) ?_); rintro e w11 ⟨rfl, hb⟩; go_must (have HM11 := Lib.hid (by first | exact HM10.out.below hb rfl | exact HM10.out.drew.below hb rfl | exact HM10.out.drew.drew.below hb rfl | exact HM10.out.drew.drew.drew.below hb rfl | exact HM10.out.drew.drew.drew.drew.below hb rfl)); clear hb; have cc3 := HM11.out.m.b.x3.cell; have cc4 := HM11.out.m.b.x4.cell; have cc8 := HM11.out.x8.cell); rw [turn_many]
             | ((go_at_call_of 16 ga); go_must (refine Calls.mono (implMany_any _ x _ (by first | exact HM11.out.m.f.reads | exact HM11.out.drew.m.f.reads | exact HM11.out.drew.drew.m.f.reads | exact HM11.out.drew.drew.drew.m.f.reads | exact HM11.out.drew.drew.drew.drew.m.f.reads) (by omega) (by omega)) ?_); rintro e w12 ⟨rfl, hb⟩; go_must (have HM12 := Lib.hid (by first | exact HM11.out.below hb rfl | exact HM11.out.drew.below hb rfl | exact HM11.out.drew.drew.below hb rfl | exact HM11.out.drew.drew.drew.below hb rfl | exact HM11.out.drew.drew.drew.drew.below hb rfl)); clear hb; have cc3 := HM12.out.m.b.x3.cell; have cc4 := HM12.out.m.b.x4.cell; have cc8 := HM12.out.x8.cell)
             | ((go_at_call_of 29 ga2); go_must (refine Calls.mono (implSoon_any _ (turnSg x) _ (by first | exact HM12.out.m.f2.reads | exact HM12.out.drew.m.f2.reads | exact HM12.out.drew.drew.m.f2.reads | exact HM12.out.drew.drew.drew.m.f2.reads | exact HM12.out.drew.drew.drew.drew.m.f2.reads) (by omega) (by omega)) ?_); rintro e w13 ⟨rfl, hb⟩; go_must (have HM13 := Lib.hid (by first | exact HM12.out.below hb rfl | exact HM12.out.drew.below hb rfl | exact HM12.out.drew.drew.below hb rfl | exact HM12.out.drew.drew.drew.below hb rfl | exact HM12.out.drew.drew.drew.drew.below hb rfl)); clear hb; have cc3 := HM13.out.m.b.x3.cell; have cc4 := HM13.out.m.b.x4.cell; have cc8 := HM13.out.x8.cell); rw [turn_soon HS.out]
             | ((go_at_call_of 29 ga); go_must (refine Calls.mono (implSoon_any _ x _ (by first | exact HM13.out.m.f.reads | exact HM13.out.drew.m.f.reads | exact HM13.out.drew.drew.m.f.reads | exact HM13.out.drew.drew.drew.m.f.reads | exact HM13.out.drew.drew.drew.drew.m.f.reads) (by omega) (by omega)) ?_); rintro e w14 ⟨rfl, hb⟩; go_must (have HM14 := Lib.hid (by first | exact HM13.out.below hb rfl | exact HM13.out.drew.below hb rfl | exact HM13.out.drew.drew.below hb rfl | exact HM13.out.drew.drew.drew.below hb rfl | exact HM13.out.drew.drew.drew.drew.below hb rfl)); clear hb; have cc3 := HM14.out.m.b.x3.cell; have cc4 := HM14.out.m.b.x4.cell; have cc8 := HM14.out.x8.cell)
             | ((go_at_call_of 27 ga); go_must (refine Calls.mono (implWait_any _ x _ (bestS x) (by omega) (by first | exact HM14.out.m.f.reads | exact HM14.out.drew.m.f.reads | exact HM14.out.drew.drew.m.f.reads | exact HM14.out.drew.drew.drew.m.f.reads | exact HM14.out.drew.drew.drew.drew.m.f.reads) (by omega) (by omega)) ?_); rintro e w15 ⟨rfl, hb⟩; go_must (have HM15 := Lib.hid (by first | exact HM14.out.below hb rfl | exact HM14.out.drew.below hb rfl | exact HM14.out.drew.drew.below hb rfl | exact HM14.out.drew.drew.drew.below hb rfl | exact HM14.out.drew.drew.drew.drew.below hb rfl)); clear hb; have cc3 := HM15.out.m.b.x3.cell; have cc4 := HM15.out.m.b.x4.cell; have cc8 := HM15.out.x8.cell)
             | ((go_at_call_of 27 ga2); go_must (refine Calls.mono (implWait_any _ (turnSg x) _ (bestS (turnSg x)) (by omega) (by first | exact HM15.out.m.f2.reads | exact HM15.out.drew.m.f2.reads | exact HM15.out.drew.drew.m.f2.reads | exact HM15.out.drew.drew.drew.m.f2.reads | exact HM15.out.drew.drew.drew.drew.m.f2.reads) (by omega) (by omega)) ?_); rintro e w16 ⟨rfl, hb⟩; go_must (have HM16 := Lib.hid (by first | exact HM15.out.below hb rfl | exact HM15.out.drew.below hb rfl | exact HM15.out.drew.drew.below hb rfl | exact HM15.out.drew.drew.drew.below hb rfl | exact HM15.out.drew.drew.drew.drew.below hb rfl)); clear hb; have cc3 := HM16.out.m.b.x3.cell; have cc4 := HM16.out.m.b.x4.cell; have cc8 := HM16.out.x8.cell); rw [turn_wait HS.out])
    go_wp2_with fail
    go_ret
    exact ⟨rfl, HM16.out.m.b.bl⟩
end Go.Proofs.Ytnhkijfibiffnaa
