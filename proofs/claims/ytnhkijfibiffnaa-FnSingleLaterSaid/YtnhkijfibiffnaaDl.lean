/-
  Walk of the draw of a single line and minutes.
-/
import Derived.Test.YtnhkijfibiffnaaDn
namespace Go.Proofs.Ytnhkijfibiffnaa
open Go.RowKit
attribute [local go_sem ↓] Go.wp_at_zero Go.wp_at_succ

/-- the three numbers of the choice -/
def lF (y : Nat) : Int := if y = 0 then 9223372036854775807 else if y = 1 then -9223372036854775808 else 1990
theorem lF_at {y : Nat} (h : y < 3) : (#[Value.int .i64 9223372036854775807, .int .i64 (-9223372036854775808), .int .i64 1990] : Array Value)[y]? = some (.int .i64 (lF y)) := by
  have : y = 0 ∨ y = 1 ∨ y = 2 := by omega
  rcases this with rfl | rfl | rfl <;> rfl
theorem lF_get {y : Nat} (h : y < [Value.int .i64 9223372036854775807, .int .i64 (-9223372036854775808), .int .i64 1990].length) : [Value.int .i64 9223372036854775807, .int .i64 (-9223372036854775808), .int .i64 1990][y] = .int .i64 (lF y) := by
  have : y = 0 ∨ y = 1 ∨ y = 2 := by simp at h; omega
  rcases this with rfl | rfl | rfl <;> rfl
theorem lF_bd (y : Nat) : -9223372036854775808 ≤ lF y ∧ lF y ≤ 9223372036854775807 := by
  unfold lF
  split
  · exact ⟨by decide, by decide⟩
  · split <;> exact ⟨by decide, by decide⟩
set_option maxRecDepth 100000 in
set_option maxHeartbeats 8000000 in
theorem drawLater_any (ao : Option Addr) (n c : Nat) (w : World) (hnc : n ≤ c) (hn : n ≤ 9223372036854775807) (hB : BSl w ao n) :
    Calls Try.prog 37 #[.slice ao n c] w (DNr w) := by
  have hbb : ∀ a, Below w.heap.size w (w.alloc a) := fun a => below_all w a
  have HBS := Lib.hid (fun a => hB.keep (hbb a))
  have HBB := Lib.hid hbb
  clear hB hbb
  go_enter Try.func37, Try.ntmps37
  go_wp2_with fail
  refine (open_any ao n c _ hn hnc (HBS.out _)).mono ?_
  rintro e w1 ⟨R, rfl, hR, hr1, hb1⟩
  rw [World.size_alloc] at hR hb1
  have hbx := Lib.hid ((Bx.new w _ _).below hb1 (by omega))
  have HB1 := Lib.hid hb1
  have HR1 := Lib.hid hr1
  have hlR := hr1.lt
  have hz1 : w.heap.size + 1 ≤ w1.heap.size := by have := hb1.size; simpa using this
  clear hb1 hr1
  go_wp2_with fail
  refine (l92Single_any R 0 _ (by omega) HR1.out).mono ?_
  rintro e w2 ⟨v, x, rfl, hF, hna, hnb, hrh, hr2, hg2⟩
  have HF := Lib.hid hF
  have HLL : Hid (SgL x) := ⟨hna, hnb, ⟨hrh.1, hrh.2.1⟩, hrh.2.2⟩
  have hl2 : w1.heap.size ≤ w2.heap.size := hg2.size
  obtain ⟨ga, ca, gb, cb, rfl, _⟩ := hF
  have HM2 : Hid (NtM w R (w2.alloc (.cells #[.slice (some ⟨ga, 0, none⟩) x.na ca, .slice (some ⟨gb, 0, none⟩) x.nb cb, .int .i64 x.run, .int .i64 x.head] 25)) w2.heap.size ga ca gb cb x 16) :=
    ⟨(hbx.out.kept hg2 (by omega)).alloc _, Bx.new _ _ _, (HF.out.mono (by omega)).keep (below_all _ _), hr2.alloc _, by omega, by omega, ((HBB.out _).trans (HB1.out.mono (by omega))).trans ((below_of_grown hg2 (by omega) (by omega)).trans ((below_all w2 _).mono (by omega)))⟩
  clear hr2 hg2
  have hxc := HM2.out.box.cell
  have hne : w.heap.size ≠ w2.heap.size := by omega
  have hne2 : w2.heap.size ≠ w.heap.size := by omega
  go_wp2_with fail
  refine (pickN_any R 16 16 _ (by omega) (by omega) HM2.out.rd).mono ?_
  rintro e w4 ⟨u, rfl, hu, hr4, hg4⟩
  have HM4 := Lib.hid (HM2.out.pick hr4 hg4)
  clear hr4 hg4 hxc
  have hxc := HM4.out.box.cell
  have hxl := HM4.out.box.lt
  have hrl := HM4.out.res.lt
  have hR4 := HM4.out.rd.lt
  by_cases h0 : u = 0
  · subst h0
    go_wp2_with fail
    have hAt : ∀ y : Nat, y < 3 → (#[Value.int .i64 9223372036854775807, .int .i64 (-9223372036854775808), .int .i64 1990] : Array Value)[y]? = some (.int .i64 (lF y)) := fun y h => lF_at h
    go_region_with (first
        | (go_at_call 62; refine Calls.mono (pickN_any R (16 + 1) 3 _ (by omega) (by omega) (HM4.out.drew.alloc _).rd) ?_; rintro e wa ⟨y, rfl, hy, hra, hga⟩; go_must (have HMa := Lib.hid ((HM4.out.drew.alloc _).pick hra hga)); go_must (have hyc : wa.cell? ⟨w4.heap.size, y, none⟩ = some (.int .i64 (lF y)) := (gcell hga w4.heap.size y (by simp) (by omega)).trans ((box_new w4.drew _ _ y).trans (lF_at hy))); have hyi : (0 : Int) ≤ (y : Int) ∧ (y : Int) < 3 := (by omega); obtain ⟨hyi1, hyi2⟩ := hyi; have hxa := HMa.out.box.cell; have hsa1 := HMa.out.res.lt; have hsa2 := HMa.out.box.lt; have hsa3 := HMa.out.bl.size; have hrsa := HMa.out.res.free; have hrca := HMa.out.res.cell; clear hra hga)
        | (go_at_call 62; go_must (refine Calls.mono (pickN_any R (16 + 1) 3 _ (by omega) (by omega) (by exact HM4.out.drew.rd)) ?_); rintro e wa ⟨y, rfl, hy, hra, hga⟩; have HMa := Lib.hid (HM4.out.drew.pick hra hga); have hyi : (0 : Int) ≤ (y : Int) ∧ (y : Int) < 3 := (by omega); obtain ⟨hyi1, hyi2⟩ := hyi; have hya := hAt y hy; have hxa := HMa.out.box.cell; have hsa1 := HMa.out.res.lt; have hsa2 := HMa.out.box.lt; have hsa3 := HMa.out.bl.size; have hrsa := HMa.out.res.free; have hrca := HMa.out.res.cell; clear hra hga))
    all_goals
      try simp only [lF_get]
      go_wp2_with fail
      exact bodyPost_ret (v := .tuple #[.agg #[.slice (some ⟨ga, 0, none⟩) x.na ca, .slice (some ⟨gb, 0, none⟩) x.nb cb, .int .i64 x.run, .int .i64 x.head], .int .i64 (lF y)]) (by simp [results, Try.results37, go_sem, World.cell?_alloc_past, hrca, hsa1]) rfl (by with_reducible first | exact HMa.out.done HLL.out (lF_bd y) | exact (HMa.out.alloc _).done HLL.out (lF_bd y) | exact (HMa.out.done HLL.out (lF_bd y)).alloc _)
  · have h0' : ((u : Int) == 0) = false := by simp; omega
    clear h0
    go_wp2_with fail
    go_region_held3 (fun w' => w'.cell? ⟨w2.heap.size, 0, none⟩ = some (.slice (some ⟨ga, 0, none⟩) x.na ca) ∧ w'.cell? ⟨w2.heap.size, 1, none⟩ = some (.slice (some ⟨gb, 0, none⟩) x.nb cb) ∧
    w'.cell? ⟨w2.heap.size, 2, none⟩ = some (.int .i64 x.run) ∧ w'.cell? ⟨w2.heap.size, 3, none⟩ = some (.int .i64 x.head)) (go_keep)
      ((go_at_call 62; go_must (refine Calls.mono (pickN_any R (16 + 1) 61 _ (by omega) (by omega) (by exact HM4.out.drew.rd)) ?_); rintro e wa ⟨y, rfl, hy, hra, hga⟩; go_must (have HMa := Lib.hid (HM4.out.drew.pick hra hga)); have hxa := HMa.out.box.cell; have hrsa := HMa.out.res.free; have hrca := HMa.out.res.cell; clear hra hga))
    go_wp2_with fail
    have hrm : -9223372036854775808 ≤ ((y : Int) - 20) ∧ ((y : Int) - 20) ≤ 9223372036854775807 := by omega
    have hw : IntKind.i64.wrap ((y : Int) - 20) = (y : Int) - 20 := IntWalk.i64_in _ (by omega)
    exact bodyPost_ret (v := .tuple #[.agg #[.slice (some ⟨ga, 0, none⟩) x.na ca, .slice (some ⟨gb, 0, none⟩) x.nb cb, .int .i64 x.run, .int .i64 x.head], .int .i64 ((y : Int) - 20)]) (by simp [results, Try.results37, go_sem, hrca, hw]) rfl (HMa.out.done HLL.out hrm)
end Go.Proofs.Ytnhkijfibiffnaa
