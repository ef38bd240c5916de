/-
  Walk of the draw of a single line and a rank.
-/
import Derived.Test.YtnhkijfibiffnaaDo
namespace Go.Proofs.Ytnhkijfibiffnaa
open Go.RowKit
attribute [local go_sem ↓] Go.wp_at_zero Go.wp_at_succ

/-- what the draw has made so far -/
structure NtM (w0 : World) (R : Nat) (wr : World) (S : Nat) (ga ca gb cb : Nat) (x : Sg) (M : Nat) : Prop where
  res : Bx wr w0.heap.size 25 #[.slice none 0 0, .slice none 0 0, .int .i64 0, .int .i64 0]
  box : Bx wr S 25 #[.slice (some ⟨ga, 0, none⟩) x.na ca, .slice (some ⟨gb, 0, none⟩) x.nb cb, .int .i64 x.run, .int .i64 x.head]
  F : SgF (R + 1) wr (.agg #[.slice (some ⟨ga, 0, none⟩) x.na ca, .slice (some ⟨gb, 0, none⟩) x.nb cb, .int .i64 x.run, .int .i64 x.head]) x
  rd : RdL wr R M
  lR : w0.heap.size < R
  lS : R < S
  bl : Below w0.heap.size w0 wr
section
variable {w0 wr w' : World} {R S ga ca gb cb M M' : Nat} {x : Sg}
theorem NtM.pick (h : NtM w0 R wr S ga ca gb cb x M) (hr : RdL w' R M') (hg : wr.grownBy w' (some R)) : NtM w0 R w' S ga ca gb cb x M' := by
  have := h.lR
  have := h.lS
  exact ⟨h.res.kept hg (by omega), h.box.kept hg (by omega), h.F.grown hg (by omega), hr, h.lR, h.lS, h.bl.trans (below_of_grown hg (by have := h.bl.size; omega) (by have := h.bl.size; omega))⟩
theorem NtM.below (h : NtM w0 R wr S ga ca gb cb x M) {B : Nat} (hb : Below B wr w') (hB : B = wr.heap.size) : NtM w0 R w' S ga ca gb cb x M := by
  subst hB
  exact ⟨h.res.below hb h.res.lt, h.box.below hb h.box.lt, h.F.keep hb, h.rd.keep hb, h.lR, h.lS, h.bl.trans (hb.mono h.bl.size)⟩
theorem NtM.drew (h : NtM w0 R wr S ga ca gb cb x M) : NtM w0 R wr.drew S ga ca gb cb x M := h.below (below_drewN (Below.refl _ _) 1) rfl
theorem NtM.drewN (h : NtM w0 R wr S ga ca gb cb x M) (q : Nat) : NtM w0 R (wr.drewN q) S ga ca gb cb x M := h.below (below_drewN (Below.refl _ _) q) rfl
theorem NtM.alloc (h : NtM w0 R wr S ga ca gb cb x M) (o : Obj) : NtM w0 R (wr.alloc o) S ga ca gb cb x M := h.below (below_all _ _) rfl
end
/-- a drawn single line and a number -/
def DNr (w : World) (e : Ending) (w' : World) : Prop :=
  ∃ v x r, e = .returned (.tuple #[v, .int .i64 r]) ∧ SgF w.heap.size w' v x ∧ SgL x ∧ (-9223372036854775808 ≤ r ∧ r ≤ 9223372036854775807) ∧ Below w.heap.size w w'
theorem NtM.done {w0 wr : World} {R S ga ca gb cb M : Nat} {x : Sg} (h : NtM w0 R wr S ga ca gb cb x M) (hL : SgL x) {r : Int} (hs : -9223372036854775808 ≤ r ∧ r ≤ 9223372036854775807) {v0 v1 v2 v3 : Value} :
    DNr w0 (.returned (.tuple #[.agg #[.slice (some ⟨ga, 0, none⟩) x.na ca, .slice (some ⟨gb, 0, none⟩) x.nb cb, .int .i64 x.run, .int .i64 x.head], .int .i64 r]))
      ((((wr.setCell ⟨w0.heap.size, 0, none⟩ v0).setCell ⟨w0.heap.size, 1, none⟩ v1).setCell ⟨w0.heap.size, 2, none⟩ v2).setCell ⟨w0.heap.size, 3, none⟩ v3) := by
  have h3 := h.lR
  exact ⟨_, x, r, rfl, ((((h.F.setOther (by dsimp only; omega) _).setOther (by dsimp only; omega) _).setOther (by dsimp only; omega) _).setOther (by dsimp only; omega) _).mono (by omega), hL, hs,
    (((h.bl.setCell (by dsimp only; omega) _).setCell (by dsimp only; omega) _).setCell (by dsimp only; omega) _).setCell (by dsimp only; omega) _⟩

/-- the two numbers of the choice -/
def nF (P : Int) (y : Nat) : Int := if y = 0 then -1 else P
theorem nF_at (P : Int) {y : Nat} (h : y < 2) : (#[Value.int .i64 (-1), .int .i64 P] : Array Value)[y]? = some (.int .i64 (nF P y)) := by
  have : y = 0 ∨ y = 1 := by omega
  rcases this with rfl | rfl <;> rfl
theorem nF_get (P : Int) {y : Nat} (h : y < [Value.int .i64 (-1), .int .i64 P].length) : [Value.int .i64 (-1), .int .i64 P][y] = .int .i64 (nF P y) := by
  have : y = 0 ∨ y = 1 := by simp at h; omega
  rcases this with rfl | rfl <;> rfl
theorem DNr.alloc {w w' : World} {e : Ending} (h : DNr w e w') (o : Obj) : DNr w e (w'.alloc o) := by
  obtain ⟨v, x, r, he, hF, hL, hr, hb⟩ := h
  exact ⟨v, x, r, he, hF.keep (below_all _ _), hL, hr, hb.trans ((below_all _ _).mono hb.size)⟩
theorem nF_bd {P : Int} (h : 1 ≤ P ∧ P ≤ 4096) (y : Nat) : -9223372036854775808 ≤ nF P y ∧ nF P y ≤ 9223372036854775807 := by unfold nF; split <;> omega
set_option maxRecDepth 100000 in
set_option maxHeartbeats 8000000 in
theorem drawNth_any (ao : Option Addr) (n c : Nat) (w : World) (hnc : n ≤ c) (hn : n ≤ 9223372036854775807) (hB : BSl w ao n) :
    Calls Try.prog 18 #[.slice ao n c] w (DNr w) := by
  have hbb : ∀ a, Below w.heap.size w (w.alloc a) := fun a => below_all w a
  have HBS := Lib.hid (fun a => hB.keep (hbb a))
  have HBB := Lib.hid hbb
  clear hB hbb
  go_enter Try.func18, Try.ntmps18
  go_wp2_with fail
  refine (open_any ao n c _ hn hnc (HBS.out _)).mono ?_
  rintro e w1 ⟨R, rfl, hR, hr1, hb1⟩
  rw [World.size_alloc] at hR hb1
  have hbx := Lib.hid ((Bx.new w _ _).below hb1 (by omega))
  have HB1 := Lib.hid hb1
  have HR1 := Lib.hid hr1
  have hlR := hr1.lt
  have hz1 : w.heap.size + 1 ≤ w1.heap.size := by have := hb1.size; simpa using this
  clear hb1 hr1
  go_wp2_with fail
  refine (l92Single_any R 0 _ (by omega) HR1.out).mono ?_
  rintro e w2 ⟨v, x, rfl, hF, hna, hnb, hrh, hr2, hg2⟩
  have HF := Lib.hid hF
  have HLL : Hid (SgL x) := ⟨hna, hnb, ⟨hrh.1, hrh.2.1⟩, hrh.2.2⟩
  have hl2 : w1.heap.size ≤ w2.heap.size := hg2.size
  obtain ⟨ga, ca, gb, cb, rfl, _⟩ := hF
  have HM2 : Hid (NtM w R (w2.alloc (.cells #[.slice (some ⟨ga, 0, none⟩) x.na ca, .slice (some ⟨gb, 0, none⟩) x.nb cb, .int .i64 x.run, .int .i64 x.head] 25)) w2.heap.size ga ca gb cb x 16) :=
    ⟨(hbx.out.kept hg2 (by omega)).alloc _, Bx.new _ _ _, (HF.out.mono (by omega)).keep (below_all _ _), hr2.alloc _, by omega, by omega, ((HBB.out _).trans (HB1.out.mono (by omega))).trans ((below_of_grown hg2 (by omega) (by omega)).trans ((below_all w2 _).mono (by omega)))⟩
  clear hr2 hg2
  go_wp2_with fail
  refine (specMany_any _ x _ HM2.out.F.reads (by omega) (by omega)).mono ?_
  rintro e w3 ⟨rfl, hb3⟩
  have HM3 := Lib.hid (HM2.out.below hb3 rfl)
  clear hb3
  have hmb := many_bd (x := x)
  have hxc := HM3.out.box.cell
  have hne : w.heap.size ≠ w2.heap.size := by omega
  have hne2 : w2.heap.size ≠ w.heap.size := by omega
  by_cases hlow : manyV x ≤ 1
  · have hmx : max 1 (manyV x) = 1 := by omega
    have hP : (1 : Int) ≤ 1 ∧ (1 : Int) ≤ 4096 := by omega
    go_wp2_with fail
    refine (pickN_any R 16 12 _ (by omega) (by omega) HM3.out.rd).mono ?_
    rintro e w4 ⟨u, rfl, hu, hr4, hg4⟩
    have HM4 := Lib.hid (HM3.out.pick hr4 hg4)
    clear hr4 hg4 hxc
    have hxc := HM4.out.box.cell
    have hxl := HM4.out.box.lt
    have hrl := HM4.out.res.lt
    have hR4 := HM4.out.rd.lt
    by_cases h0 : u = 0
    · subst h0
      go_wp2_with fail
      have hAt : ∀ y : Nat, y < 2 → (#[Value.int .i64 (-1), .int .i64 (1 : Int)] : Array Value)[y]? = some (.int .i64 (nF (1 : Int) y)) := fun y h => nF_at _ h
      go_region_with (first
          | (go_at_call 62; refine Calls.mono (pickN_any R (16 + 1) 2 _ (by omega) (by omega) (HM4.out.drew.alloc _).rd) ?_; rintro e wa ⟨y, rfl, hy, hra, hga⟩; go_must (have HMa := Lib.hid ((HM4.out.drew.alloc _).pick hra hga)); go_must (have hyc : wa.cell? ⟨w4.heap.size, y, none⟩ = some (.int .i64 (nF (1 : Int) y)) := (gcell hga w4.heap.size y (by simp) (by omega)).trans ((box_new w4.drew _ _ y).trans (nF_at (1 : Int) hy))); have hyi : (0 : Int) ≤ (y : Int) ∧ (y : Int) < 2 := (by omega); obtain ⟨hyi1, hyi2⟩ := hyi; have hxa := HMa.out.box.cell; have hsa1 := HMa.out.res.lt; have hsa2 := HMa.out.box.lt; have hsa3 := HMa.out.bl.size; have hrsa := HMa.out.res.free; have hrca := HMa.out.res.cell; clear hra hga)
          | (go_at_call 62; go_must (refine Calls.mono (pickN_any R (16 + 1) 2 _ (by omega) (by omega) (by exact HM4.out.drew.rd)) ?_); rintro e wa ⟨y, rfl, hy, hra, hga⟩; have HMa := Lib.hid (HM4.out.drew.pick hra hga); have hyi : (0 : Int) ≤ (y : Int) ∧ (y : Int) < 2 := (by omega); obtain ⟨hyi1, hyi2⟩ := hyi; have hya := hAt y hy; have hxa := HMa.out.box.cell; have hsa1 := HMa.out.res.lt; have hsa2 := HMa.out.box.lt; have hsa3 := HMa.out.bl.size; have hrsa := HMa.out.res.free; have hrca := HMa.out.res.cell; clear hra hga))
      all_goals
        try simp only [nF_get]
        go_wp2_with fail
        exact bodyPost_ret (v := .tuple #[.agg #[.slice (some ⟨ga, 0, none⟩) x.na ca, .slice (some ⟨gb, 0, none⟩) x.nb cb, .int .i64 x.run, .int .i64 x.head], .int .i64 (nF (1 : Int) y)]) (by simp [results, Try.results18, go_sem, World.cell?_alloc_past, hrca, hsa1]) rfl (by with_reducible first | exact HMa.out.done HLL.out (nF_bd hP y) | exact (HMa.out.alloc _).done HLL.out (nF_bd hP y) | exact (HMa.out.done HLL.out (nF_bd hP y)).alloc _)
    · have h0' : ((u : Int) == 0) = false := by simp; omega
      clear h0
      go_wp2_with fail
      go_region_held3 (fun w' => w'.cell? ⟨w2.heap.size, 0, none⟩ = some (.slice (some ⟨ga, 0, none⟩) x.na ca) ∧ w'.cell? ⟨w2.heap.size, 1, none⟩ = some (.slice (some ⟨gb, 0, none⟩) x.nb cb) ∧
    w'.cell? ⟨w2.heap.size, 2, none⟩ = some (.int .i64 x.run) ∧ w'.cell? ⟨w2.heap.size, 3, none⟩ = some (.int .i64 x.head)) (go_keep)
        ((go_at_call 62; go_must (refine Calls.mono (pickN_any R (16 + 1) 1000 _ (by omega) (by omega) (by exact HM4.out.drew.rd)) ?_); rintro e wa ⟨y, rfl, hy, hra, hga⟩; go_must (have HMa := Lib.hid (HM4.out.drew.pick hra hga)); have hxa := HMa.out.box.cell; have hrsa := HMa.out.res.free; have hrca := HMa.out.res.cell; clear hra hga))
      go_wp2_with fail
      have hrm : -9223372036854775808 ≤ (0 : Int) ∧ (0 : Int) ≤ 9223372036854775807 := by
        first
          | omega
          | (have h1 := Int.tmod_nonneg (manyV x) (show (0 : Int) ≤ (y : Int) by omega); have h2 := Int.tmod_lt_of_pos (y : Int) (show (0 : Int) < manyV x by omega); omega)
      exact bodyPost_ret (v := .tuple #[.agg #[.slice (some ⟨ga, 0, none⟩) x.na ca, .slice (some ⟨gb, 0, none⟩) x.nb cb, .int .i64 x.run, .int .i64 x.head], .int .i64 (0 : Int)]) (by simp [results, Try.results18, go_sem, hrca]) rfl (HMa.out.done HLL.out hrm)
  · have hmx : max 1 (manyV x) = manyV x := by omega
    have hP : (1 : Int) ≤ manyV x ∧ manyV x ≤ 4096 := by omega
    have hp1 : ¬ manyV x = 0 := by omega
    go_wp2_with fail
    refine (pickN_any R 16 12 _ (by omega) (by omega) HM3.out.rd).mono ?_
    rintro e w4 ⟨u, rfl, hu, hr4, hg4⟩
    have HM4 := Lib.hid (HM3.out.pick hr4 hg4)
    clear hr4 hg4 hxc
    have hxc := HM4.out.box.cell
    have hxl := HM4.out.box.lt
    have hrl := HM4.out.res.lt
    have hR4 := HM4.out.rd.lt
    by_cases h0 : u = 0
    · subst h0
      go_wp2_with fail
      have hAt : ∀ y : Nat, y < 2 → (#[Value.int .i64 (-1), .int .i64 (manyV x)] : Array Value)[y]? = some (.int .i64 (nF (manyV x) y)) := fun y h => nF_at _ h
      go_region_with (first
          | (go_at_call 62; refine Calls.mono (pickN_any R (16 + 1) 2 _ (by omega) (by omega) (HM4.out.drew.alloc _).rd) ?_; rintro e wa ⟨y, rfl, hy, hra, hga⟩; go_must (have HMa := Lib.hid ((HM4.out.drew.alloc _).pick hra hga)); go_must (have hyc : wa.cell? ⟨w4.heap.size, y, none⟩ = some (.int .i64 (nF (manyV x) y)) := (gcell hga w4.heap.size y (by simp) (by omega)).trans ((box_new w4.drew _ _ y).trans (nF_at (manyV x) hy))); have hyi : (0 : Int) ≤ (y : Int) ∧ (y : Int) < 2 := (by omega); obtain ⟨hyi1, hyi2⟩ := hyi; have hxa := HMa.out.box.cell; have hsa1 := HMa.out.res.lt; have hsa2 := HMa.out.box.lt; have hsa3 := HMa.out.bl.size; have hrsa := HMa.out.res.free; have hrca := HMa.out.res.cell; clear hra hga)
          | (go_at_call 62; go_must (refine Calls.mono (pickN_any R (16 + 1) 2 _ (by omega) (by omega) (by exact HM4.out.drew.rd)) ?_); rintro e wa ⟨y, rfl, hy, hra, hga⟩; have HMa := Lib.hid (HM4.out.drew.pick hra hga); have hyi : (0 : Int) ≤ (y : Int) ∧ (y : Int) < 2 := (by omega); obtain ⟨hyi1, hyi2⟩ := hyi; have hya := hAt y hy; have hxa := HMa.out.box.cell; have hsa1 := HMa.out.res.lt; have hsa2 := HMa.out.box.lt; have hsa3 := HMa.out.bl.size; have hrsa := HMa.out.res.free; have hrca := HMa.out.res.cell; clear hra hga))
      all_goals
        try simp only [nF_get]
        go_wp2_with fail
        exact bodyPost_ret (v := .tuple #[.agg #[.slice (some ⟨ga, 0, none⟩) x.na ca, .slice (some ⟨gb, 0, none⟩) x.nb cb, .int .i64 x.run, .int .i64 x.head], .int .i64 (nF (manyV x) y)]) (by simp [results, Try.results18, go_sem, World.cell?_alloc_past, hrca, hsa1]) rfl (by with_reducible first | exact HMa.out.done HLL.out (nF_bd hP y) | exact (HMa.out.alloc _).done HLL.out (nF_bd hP y) | exact (HMa.out.done HLL.out (nF_bd hP y)).alloc _)
    · have h0' : ((u : Int) == 0) = false := by simp; omega
      clear h0
      go_wp2_with fail
      go_region_held3 (fun w' => w'.cell? ⟨w2.heap.size, 0, none⟩ = some (.slice (some ⟨ga, 0, none⟩) x.na ca) ∧ w'.cell? ⟨w2.heap.size, 1, none⟩ = some (.slice (some ⟨gb, 0, none⟩) x.nb cb) ∧
    w'.cell? ⟨w2.heap.size, 2, none⟩ = some (.int .i64 x.run) ∧ w'.cell? ⟨w2.heap.size, 3, none⟩ = some (.int .i64 x.head)) (go_keep)
        ((go_at_call 62; go_must (refine Calls.mono (pickN_any R (16 + 1) 1000 _ (by omega) (by omega) (by exact HM4.out.drew.rd)) ?_); rintro e wa ⟨y, rfl, hy, hra, hga⟩; go_must (have HMa := Lib.hid (HM4.out.drew.pick hra hga)); have hxa := HMa.out.box.cell; have hrsa := HMa.out.res.free; have hrca := HMa.out.res.cell; clear hra hga))
      go_wp2_with fail
      have hrm : -9223372036854775808 ≤ ((y : Int).tmod (manyV x)) ∧ ((y : Int).tmod (manyV x)) ≤ 9223372036854775807 := by
        first
          | omega
          | (have h1 := Int.tmod_nonneg (manyV x) (show (0 : Int) ≤ (y : Int) by omega); have h2 := Int.tmod_lt_of_pos (y : Int) (show (0 : Int) < manyV x by omega); omega)
      exact bodyPost_ret (v := .tuple #[.agg #[.slice (some ⟨ga, 0, none⟩) x.na ca, .slice (some ⟨gb, 0, none⟩) x.nb cb, .int .i64 x.run, .int .i64 x.head], .int .i64 ((y : Int).tmod (manyV x))]) (by simp [results, Try.results18, go_sem, hrca]) rfl (HMa.out.done HLL.out hrm)
end Go.Proofs.Ytnhkijfibiffnaa
