/-
  slices.AppendSeq and slices.Collect over the iterator of moves.
-/
import Derived.Maps.AppendAt
import Derived.Test.YtbachpfgakjncaaMa
import Derived.Test.YtbachpfgakjncaaEa
namespace Go.Proofs.Ytbachpfgakjncaa
open Go.RowKit

/-- the cells of a list of moves -/
def mvC (ys : List (Int × ByteArray)) : List Value := ys.flatMap fun y => [.int .i64 y.1, .string y.2]
theorem mvC_snoc (ys : List (Int × ByteArray)) (y : Int × ByteArray) : mvC (ys ++ [y]) = mvC ys ++ [.int .i64 y.1, .string y.2] := by simp [mvC]
theorem infoMv : (Try.prog.info? 34).map (fun i => (i.zero, i.size, i.bytes)) = some (some (.agg #[.int .i64 0, .string ⟨#[]⟩]), 2, 24) := by kernel_rfl
theorem mvs_stops (n : Nat) (hn : 1 ≤ n) (Bs r gb cb gt ct : Nat) (x : Ln) (hxn : x.n ≤ 1000000) (hxm : x.m ≤ 1000000) (n₀ : Nat) (w : World) (hn0 : n₀ ≤ w.heap.size) (hBs : w.cell? ⟨Bs, 0, none⟩ = some (.pointer (some ⟨r, 0, none⟩))) (hB1 : Bs < n₀) (hr : RwC w r gb cb gt ct x) (hB2 : r < n₀) (hB3 : gb < n₀) (hB4 : gt < n₀) :
    SeqStopsK Fence.wide n Try.prog 84 #[.pointer (some ⟨Bs, 0, none⟩)] (fun y : Int × ByteArray => #[.agg #[.int .i64 y.1, .string y.2]]) (Below n₀) (fun ys => ys = mvsL x) (fun pre => pre <+: mvsL x) (7 * x.n + 1) w := fun l J Jx W hW hJ _ hY h0 => by
  refine mv1_in n hn l Bs n₀ r gb cb gt ct x hxn hxm J Jx W hJ hY ?_ hB1 (hr.below hW (Nat.le_refl _)) hB2 hB3 hB4 (Nat.le_trans hn0 hW.size) h0
  rw [hW.cell (p := ⟨Bs, 0, none⟩) (by dsimp only; omega)]
  exact hBs
theorem moves_any (p : Option Addr) (w : World) :
    Calls Try.prog 48 #[.pointer p] w fun e w' => e = .returned (.func (.func 84) #[] #[.pointer (some ⟨w.heap.size, 0, none⟩)]) ∧ w' = w.alloc (.cells #[.pointer p] 64) := by
  go_enter Try.func48, Try.ntmps48
  go_wp2_with fail
  go_ret
  exact ⟨rfl, rfl⟩
theorem cell_two_new (w : World) (u v : Value) (t : TypeId) : ∀ j z, [u, v][j]? = some z → (w.alloc (.cells #[u, v] t)).cell? ((⟨w.heap.size, 0, none⟩ : Addr).add j) = some z := by
  intro j z hj
  rw [addr_add, Nat.zero_add, box_new]
  simpa using hj
theorem bx_notrow {W : World} {b B : Nat} {t : TypeId} {cs : Array Value} {row : Option Nat} (h : Bx W b t cs) (hr : ∀ r, row = some r → B ≤ r ∧ ∃ o : Obj, W.heap[r]? = some o ∧ o.isCells = false) : row ≠ some b := fun e => by
  obtain ⟨_, o, ho, hc⟩ := hr b e
  rw [show W.heap[b]? = _ from h] at ho
  cases ho
  cases hc
attribute [local go_sem] Oper.semAt_some
set_option linter.unusedSimpArgs false in
set_option maxRecDepth 100000 in
set_option maxHeartbeats 4000000 in
theorem appendSeq_in (n : Nat) (hn : 4 ≤ n) (Bs r gb cb gt ct : Nat) (x : Ln) (hxn : x.n ≤ 1000000) (hxm : x.m ≤ 1000000) (w : World) (hBs : w.cell? ⟨Bs, 0, none⟩ = some (.pointer (some ⟨r, 0, none⟩))) (hB1 : Bs < w.heap.size) (hr : RwC w r gb cb gt ct x) :
    CallsIn Fence.wide n Try.prog 83 #[.slice none 0 0, .func (.func 84) #[] #[.pointer (some ⟨Bs, 0, none⟩)]] w fun e W' => ∃ v, e = .returned v ∧ W'.ownsRow w.heap.size 34 2 v (mvsL x).length (mvC (mvsL x)) ∧ Below w.heap.size w W' := by
  have h1 : 1 ≤ n := by omega
  obtain ⟨i0, hi, hz0, hz1, hz2⟩ := info_parts infoMv
  have HR := Lib.hid hr
  have HBs := Lib.hid hBs
  clear hr hBs
  refine callsIn_of_wp_marks Try.func83 rfl trivial ?_ rfl
  simp only [Try.ntmps83, List.size_toArray, List.length_cons, List.length_nil, Nat.reduceAdd, Nat.reduceSub, Array.replicate_succ, Array.replicate_zero, List.push_toArray, List.append_toArray, List.nil_append, List.cons_append]
  gi_wp2
  have bO := Boxed.new w 28 (.slice none 0 0)
  have hB0 : Below w.heap.size w (w.alloc (.cells #[.slice none 0 0] 28)) := below_all _ _
  refine wpIn_rangeFunc_ownH rfl h1 (gf := 84) (lb := #[.pointer (some ⟨Bs, 0, none⟩)]) rfl trivial (enters_of Try.func84 (by kernel_rfl) rfl)
    (mvs_stops (n - 1) (by omega) Bs r gb cb gt ct x hxn hxm w.heap.size (w.alloc (.cells #[.slice none 0 0] 28)) (by simp) (by rw [hB0.cell (p := ⟨Bs, 0, none⟩) hB1]; exact HBs.out) hB1 (HR.out.below hB0 (Nat.le_refl _)) HR.out.box.lt HR.out.bs.lt HR.out.ts.lt) belowK_t (belowK_b (by simp)) (Below.refl _ _) (fun _ => rfl)
    (fun pre W => (∃ v, Boxed W w.heap.size 28 v ∧ W.ownsRow w.heap.size 34 2 v pre.length (mvC pre) ∧ True) ∧ Below w.heap.size w W)
    (fun _ _ _ => False)
    (OwnFrom.and (Go.Own.from (holdsRow_own w.heap.size w.heap.size 28 34 2 (fun pre => pre.length) (fun pre => mvC pre) (fun _ _ => True)) _) (ownFrom_below (Nat.le_refl _) (by simp)))
    (fun _ _ _ _ _ hs _ _ => hs)
    ⟨⟨_, bO, World.ownsRow_nil _ _ _ _, trivial⟩, hB0⟩
    (fun y a' W => ∃ Bv, w.heap.size + 1 ≤ Bv ∧ Bx W Bv 34 #[.int .i64 y.1, .string y.2] ∧ a' = { tmps := #[.slice none 0 0, .func (.func 84) #[] #[.pointer (some ⟨Bs, 0, none⟩)], .pointer (some ⟨w.heap.size, 0, none⟩), undef, .slice none 0 0, .pointer (some ⟨Bv, 0, none⟩), .func (.func 84) #[] #[.pointer (some ⟨Bs, 0, none⟩)], .agg #[.int .i64 y.1, .string y.2], undef, undef, undef, undef, undef], defers := [] })
    (fun y a' s A B row hs hg hr => by
      obtain ⟨Bv, q1, q2, q3⟩ := hs
      exact ⟨Bv, q1, q2.of_block (hg.block Bv q2.lt (fun e => bx_notrow q2 hr e.symm)), q3⟩) ?assign ?body ?done ?stop
  case assign =>
    rintro l pre y W K ⟨⟨v, hv, hrow, _⟩, hB⟩ hK
    gi_wp2
    exact hK _ _ ((KeepsOthers.alloc _ _).from _) ((Below.refl _ W).alloc hB.size _) ⟨⟨v, hv.alloc _, hrow.alloc _, trivial⟩, hB.alloc hB.size _⟩ ⟨W.heap.size, by have := hv.lt; omega, Bx.new _ _ _, rfl⟩
  case body =>
    rintro l pre y a' W hl ⟨r', hr'⟩ ⟨⟨v, hv, hrow, _⟩, hB⟩ ⟨Bv, hBv, bX, rfl⟩ hlt
    have hc := hv.cell
    have hxc := bX.cell
    gi_wp2_with (gi_at_builtin; refine wpListIn_append_own _ rfl _ _ 28 rfl w.heap.size 34 i0 (.agg #[.int .i64 0, .string ⟨#[]⟩]) 2 24 Try.underlying28 hi hz0 hz1 hz2 rfl (by decide) _ _ _ rfl (hrow.alloc _) ⟨W.heap.size, 0, none⟩ 1 1 [.int .i64 y.1, .string y.2] rfl rfl (cell_two_new _ _ _ _) (by simp [Value.oneCell']) (by unfold maxLen; omega) (by omega) (by have := hB.size; simp; omega) ?_; intro v' w1 hown' hgrow _; obtain ⟨g', cap', rfl⟩ := ownsRow_succ hown'; obtain ⟨hv1, hv2, hr2, hk2, hb2⟩ := hv.appended (by decide) hrow hB.size (Nat.le_refl _) hown' hgrow; have hc1 := hv1.cell; have hf1 := hv1.frozen)
    exact ⟨hk2.from _, hb2, ⟨_, hv2, by rw [mvC_snoc]; simpa using hr2, trivial⟩, hB.trans hb2⟩
  case done =>
    rintro D ys W hD rfl ⟨⟨v, hv, hrow, _⟩, hB⟩ hK
    have hc := hv.cell
    gi_wp2
    refine ⟨by simp, .inl ⟨_, _, rfl, run_takeDeferred hK, ?_⟩⟩
    exact ⟨_, results_tmp rfl _ _ _, v, rfl, ownsRow_putObj hrow _ hK rfl, hB.trans (belowK_b (w := w) (Nat.le_refl _) W D _ _ (by simp at hD; omega) hK rfl rfl)⟩
  case stop =>
    rintro D c pre W _ _ h _
    exact h.elim
end Go.Proofs.Ytbachpfgakjncaa
