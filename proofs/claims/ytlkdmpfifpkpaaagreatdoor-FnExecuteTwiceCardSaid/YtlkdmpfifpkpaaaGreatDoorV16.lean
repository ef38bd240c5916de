/-
  Parts of the proof: Ea Mb Mc Rq Ee Ef Sf Lm. No condition.
-/
import Derived.Maps.AppendAt
import Derived.OrdersIn
import Derived.OrdersHeld
import Derived.Deep.RegionHeld
import Derived.Test.YtlkdmpfifpkpaaaGreatDoorV15
namespace Go.Proofs.YtlkdmpfifpkpaaaGreatDoor
open Go.RowKit
def BL (w : World) (v : Value) (n : Nat) (N : Nat → Int) (I O : Nat → Bool) : Prop :=
 (∃ b o c, v = .slice (some ⟨b, o, none⟩) n c ∧ BkC w b o n N I O) ∨ (n = 0 ∧ ∃ ao c, v = .slice ao 0 c)
theorem BL.shape {w : World} {v : Value} {n : Nat} {N : Nat → Int} {I O : Nat → Bool} (h : BL w v n N I O) : ∃ ao c, v = .slice ao n c := by
 rcases h with ⟨b, o, c, e, _⟩ | ⟨rfl, ao, c, e⟩
 ·exact ⟨_, _, e⟩
 ·exact ⟨_, _, e⟩
theorem elMvL : Elem Tryz.prog 54 94 (.agg #[.int .i64 0, .string ⟨#[]⟩]) 2 24 := ⟨Tryz.underlying54, by kernel_rfl, rfl, by decide⟩
theorem own_bk0 (w : World) (n : Nat) (hn : n ≤ 1000000000000) : Own (w.alloc (.cells (madeCells #[.int .i64 0, .bool false, .bool false] (n * 3)) 76)) w.heap.size n n 3 76 (bkF (fun _ => 0) (fun _ => false) (fun _ => false)) :=
 own_full w _ n 3 _ _ (by unfold maxLen; omega) rfl (by omega) (fun i _ => by
  unfold bkF
  have h3 : i % 3 = 0 ∨ i % 3 = 1 ∨ i % 3 = 2 := by omega
  rcases h3 with h | h | h <;> simp [h])
def mvC (ys : List (Int × ByteArray)) : List Value := ys.flatMap fun y => [.int .i64 y.1, .string y.2]
theorem mvC_snoc (ys : List (Int × ByteArray)) (y : Int × ByteArray) : mvC (ys ++ [y]) = mvC ys ++ [.int .i64 y.1, .string y.2] := by simp [mvC]
theorem infoMv : (Tryz.prog.info? 94).map (fun i => (i.zero, i.size, i.bytes)) = some (some (.agg #[.int .i64 0, .string ⟨#[]⟩]), 2, 24) := by kernel_rfl
theorem mvs_stops (n : Nat) (hn : 1 ≤ n) (Bs r gb cb gt ct : Nat) (x : Ln) (hxn : x.n ≤ 1000000) (hxm : x.m ≤ 1000000) (n₀ : Nat) (w : World) (hn0 : n₀ ≤ w.heap.size) (hBs : w.cell? ⟨Bs, 0, none⟩ = some (.pointer (some ⟨r, 0, none⟩))) (hB1 : Bs < n₀) (hr : RwC w r gb cb gt ct x) (hB2 : r < n₀) (hB3 : gb < n₀) (hB4 : gt < n₀) :
    SeqStopsK Fence.wide n Tryz.prog 166 #[.pointer (some ⟨Bs, 0, none⟩)] (fun y : Int × ByteArray => #[.agg #[.int .i64 y.1, .string y.2]]) (Below n₀) (fun ys => ys = mvsL x) (fun pre => pre <+: mvsL x) (7 * x.n + 1) w := fun l J Jx W hW hJ _ hY h0 => by
  refine mv1_in n hn l Bs n₀ r gb cb gt ct x hxn hxm J Jx W hJ hY ?_ hB1 (hr.below hW (Nat.le_refl _)) hB2 hB3 hB4 (Nat.le_trans hn0 hW.size) h0
  rw [hW.cell (p := ⟨Bs, 0, none⟩) (by dsimp only; omega)]
  exact hBs
theorem moves_any (p : Option Addr) (w : World) :
    Calls Tryz.prog 147 #[.pointer p] w fun e w' => e = .returned (.func (.func 166) #[] #[.pointer (some ⟨w.heap.size, 0, none⟩)]) ∧ w' = w.alloc (.cells #[.pointer p] 174) := by
  go_enter Tryz.func147, Tryz.ntmps147
  go_wp2_with fail
  go_ret
  exact ⟨rfl, rfl⟩
theorem cell_two_new (w : World) (u v : Value) (t : TypeId) : ∀ j z, [u, v][j]? = some z → (w.alloc (.cells #[u, v] t)).cell? ((⟨w.heap.size, 0, none⟩ : Addr).add j) = some z := by
 intro j z hj
 rw [addr_add, Nat.zero_add, box_new]
 simpa using hj
theorem bx_notrow {W : World} {b B : Nat} {t : TypeId} {cs : Array Value} {row : Option Nat} (h : Bx W b t cs) (hr : ∀ r, row = some r → B ≤ r ∧ ∃ o : Obj, W.heap[r]? = some o ∧ o.isCells = false) : row ≠ some b := fun e => by
 obtain ⟨_, o, ho, hc⟩ := hr b e
 rw [show W.heap[b]? = _ from h] at ho
 cases ho
 cases hc
attribute [local go_sem] Oper.semAt_some
set_option linter.unusedSimpArgs false in
set_option maxRecDepth 100000 in
set_option maxHeartbeats 4000000 in
theorem appendSeq_in (n : Nat) (hn : 4 ≤ n) (Bs r gb cb gt ct : Nat) (x : Ln) (hxn : x.n ≤ 1000000) (hxm : x.m ≤ 1000000) (w : World) (hBs : w.cell? ⟨Bs, 0, none⟩ = some (.pointer (some ⟨r, 0, none⟩))) (hB1 : Bs < w.heap.size) (hr : RwC w r gb cb gt ct x) :
    CallsIn Fence.wide n Tryz.prog 165 #[.slice none 0 0, .func (.func 166) #[] #[.pointer (some ⟨Bs, 0, none⟩)]] w fun e W' => ∃ v, e = .returned v ∧ W'.ownsRow w.heap.size 94 2 v (mvsL x).length (mvC (mvsL x)) ∧ Below w.heap.size w W' := by
  have h1 : 1 ≤ n := by omega
  obtain ⟨i0, hi, hz0, hz1, hz2⟩ := info_parts infoMv
  have HR := Lib.hid hr
  have HBs := Lib.hid hBs
  clear hr hBs
  refine callsIn_of_wp_marks Tryz.func165 rfl trivial ?_ rfl
  simp only [Tryz.ntmps165, List.size_toArray, List.length_cons, List.length_nil, Nat.reduceAdd, Nat.reduceSub, Array.replicate_succ, Array.replicate_zero, List.push_toArray, List.append_toArray, List.nil_append, List.cons_append]
  gi_wp2
  have bO := Boxed.new w 54 (.slice none 0 0)
  have hB0 : Below w.heap.size w (w.alloc (.cells #[.slice none 0 0] 54)) := below_all _ _
  refine wpIn_rangeFunc_ownH rfl h1 (gf := 166) (lb := #[.pointer (some ⟨Bs, 0, none⟩)]) rfl trivial (enters_of Tryz.func166 (by kernel_rfl) rfl)
    (mvs_stops (n - 1) (by omega) Bs r gb cb gt ct x hxn hxm w.heap.size (w.alloc (.cells #[.slice none 0 0] 54)) (by simp) (by rw [hB0.cell (p := ⟨Bs, 0, none⟩) hB1]; exact HBs.out) hB1 (HR.out.below hB0 (Nat.le_refl _)) HR.out.box.lt HR.out.bs.lt HR.out.ts.lt) belowK_t (belowK_b (by simp)) (Below.refl _ _) (fun _ => rfl)
    (fun pre W => (∃ v, Boxed W w.heap.size 54 v ∧ W.ownsRow w.heap.size 94 2 v pre.length (mvC pre) ∧ True) ∧ Below w.heap.size w W)
    (fun _ _ _ => False)
    (OwnFrom.and (Go.Own.from (holdsRow_own w.heap.size w.heap.size 54 94 2 (fun pre => pre.length) (fun pre => mvC pre) (fun _ _ => True)) _) (ownFrom_below (Nat.le_refl _) (by simp)))
    (fun _ _ _ _ _ hs _ _ => hs)
    ⟨⟨_, bO, World.ownsRow_nil _ _ _ _, trivial⟩, hB0⟩
    (fun y a' W => ∃ Bv, w.heap.size + 1 ≤ Bv ∧ Bx W Bv 94 #[.int .i64 y.1, .string y.2] ∧ a' = { tmps := #[.slice none 0 0, .func (.func 166) #[] #[.pointer (some ⟨Bs, 0, none⟩)], .pointer (some ⟨w.heap.size, 0, none⟩), undef, .slice none 0 0, .pointer (some ⟨Bv, 0, none⟩), .func (.func 166) #[] #[.pointer (some ⟨Bs, 0, none⟩)], .agg #[.int .i64 y.1, .string y.2], undef, undef, undef, undef, undef], defers := [] })
    (fun y a' s A B row hs hg hr => by
     obtain ⟨Bv, q1, q2, q3⟩ := hs
     exact ⟨Bv, q1, q2.of_block (hg.block Bv q2.lt (fun e => bx_notrow q2 hr e.symm)), q3⟩) ?assign ?body ?done ?stop
  case assign =>
   rintro l pre y W K ⟨⟨v, hv, hrow, _⟩, hB⟩ hK
   gi_wp2
   exact hK _ _ ((KeepsOthers.alloc _ _).from _) ((Below.refl _ W).alloc hB.size _) ⟨⟨v, hv.alloc _, hrow.alloc _, trivial⟩, hB.alloc hB.size _⟩ ⟨W.heap.size, by have := hv.lt; omega, Bx.new _ _ _, rfl⟩
  case body =>
   rintro l pre y a' W hl ⟨r', hr'⟩ ⟨⟨v, hv, hrow, _⟩, hB⟩ ⟨Bv, hBv, bX, rfl⟩ hlt
   have hc := hv.cell
   have hxc := bX.cell
   gi_wp2_with (gi_at_builtin; refine wpListIn_append_own _ rfl _ _ 54 rfl w.heap.size 94 i0 (.agg #[.int .i64 0, .string ⟨#[]⟩]) 2 24 Tryz.underlying54 hi hz0 hz1 hz2 rfl (by decide) _ _ _ rfl (hrow.alloc _) ⟨W.heap.size, 0, none⟩ 1 1 [.int .i64 y.1, .string y.2] rfl rfl (cell_two_new _ _ _ _) (by simp [Value.oneCell']) (by unfold maxLen; omega) (by omega) (by have := hB.size; simp; omega) ?_; intro v' w1 hown' hgrow _; obtain ⟨g', cap', rfl⟩ := ownsRow_succ hown'; obtain ⟨hv1, hv2, hr2, hk2, hb2⟩ := hv.appended (by decide) hrow hB.size (Nat.le_refl _) hown' hgrow; have hc1 := hv1.cell; have hf1 := hv1.frozen)
   exact ⟨hk2.from _, hb2, ⟨_, hv2, by rw [mvC_snoc]; simpa using hr2, trivial⟩, hB.trans hb2⟩
  case done =>
   rintro D ys W hD rfl ⟨⟨v, hv, hrow, _⟩, hB⟩ hK
   have hc := hv.cell
   gi_wp2
   refine ⟨by simp, .inl ⟨_, _, rfl, run_takeDeferred hK, ?_⟩⟩
   exact ⟨_, results_tmp rfl _ _ _, v, rfl, ownsRow_putObj hrow _ hK rfl, hB.trans (belowK_b (w := w) (Nat.le_refl _) W D _ _ (by simp at hD; omega) hK rfl rfl)⟩
  case stop =>
   rintro D c pre W _ _ h _
   exact h.elim
end Go.Proofs.YtlkdmpfifpkpaaaGreatDoor
namespace Go.Proofs.YtlkdmpfifpkpaaaGreatDoor
open Go.RowKit
def mvM (ys : List (Int × ByteArray)) (i : Nat) : Int := (ys[i]?.getD (0, ⟨#[]⟩)).1
def mvS (ys : List (Int × ByteArray)) (i : Nat) : ByteArray := (ys[i]?.getD (0, ⟨#[]⟩)).2
theorem mvC_at (ys : List (Int × ByteArray)) : ∀ i, i < ys.length * 2 → (mvC ys)[i]? = some (mvF (mvM ys) (mvS ys) i) := by
 induction ys with
 | nil => intro i hi; simp at hi
 | cons y ys ih =>
  intro i hi
  have e : mvC (y :: ys) = .int .i64 y.1 :: .string y.2 :: mvC ys := by simp [mvC]
  rw [e]
  match i with
  | 0 => simp [mvF, mvM]
  | 1 => simp [mvF, mvS]
  | i + 2 =>
   have h := ih i (by simp at hi; omega)
   simp only [List.getElem?_cons_succ]
   rw [h]
   unfold mvF
   have e1 : (i + 2) % 2 = i % 2 := by omega
   have e2 : (i + 2) / 2 = i / 2 + 1 := by omega
   rw [e1, e2]
   simp [mvM, mvS]
def RowMs (z : Nat) (W : World) (v : Value) (ys : List (Int × ByteArray)) (g : Option Nat) : Prop :=
 (∃ b c, g = some b ∧ v = .slice (some ⟨b, 0, none⟩) ys.length c ∧ z ≤ b ∧ Own W b c ys.length 2 94 (mvF (mvM ys) (mvS ys))) ∨ (g = none ∧ ys = [] ∧ v = .slice none 0 0)
theorem rowMs_of {z : Nat} {W : World} {v : Value} {ys : List (Int × ByteArray)} (h : W.ownsRow z 94 2 v ys.length (mvC ys)) : ∃ g, RowMs z W v ys g := by
 rcases h.2 with ⟨rfl, h0⟩ | ⟨g, cap, cur, rfl, hz, hg, hc, hm, hs, ht⟩
 ·exact ⟨none, .inr ⟨rfl, List.length_eq_zero_iff.1 h0, rfl⟩⟩
 ·refine ⟨some g, .inl ⟨g, cap, rfl, rfl, hz, hc, hm, cur, hg, hs, fun i hi => ?_⟩⟩
  rw [← mvC_at ys i hi, ← ht, List.getElem?_take_of_lt hi]
  simp
set_option linter.unusedSimpArgs false in
theorem collect_any (Bs r gb cb gt ct : Nat) (x : Ln) (hxn : x.n ≤ 1000000) (hxm : x.m ≤ 1000000) (w : World) (hBs : w.cell? ⟨Bs, 0, none⟩ = some (.pointer (some ⟨r, 0, none⟩))) (hB1 : Bs < w.heap.size) (hr : RwC w r gb cb gt ct x) :
    Calls Tryz.prog 146 #[.func (.func 166) #[] #[.pointer (some ⟨Bs, 0, none⟩)]] w fun e W' => (∃ v g, e = .returned v ∧ RowMs w.heap.size W' v (mvsL x) g) ∧ Below w.heap.size w W' := by
  have HA : Hid (Calls Tryz.prog 165 #[.slice none 0 0, .func (.func 166) #[] #[.pointer (some ⟨Bs, 0, none⟩)]] w fun e W' => ∃ v, e = .returned v ∧ W'.ownsRow w.heap.size 94 2 v (mvsL x).length (mvC (mvsL x)) ∧ Below w.heap.size w W') := callsIn_wide.1 (appendSeq_in 4 (Nat.le_refl _) Bs r gb cb gt ct x hxn hxm w hBs hB1 hr)
  clear hBs hB1 hr
  go_enter Tryz.func146, Tryz.ntmps146
  go_wp2_with fail
  refine HA.out.mono ?_
  rintro e w1 ⟨v, rfl, hv, hb⟩
  obtain ⟨g, hg⟩ := rowMs_of hv
  have HG := Lib.hid hg
  have HB := Lib.hid hb
  clear hv hg hb
  go_wp2_with fail
  go_ret
  exact ⟨⟨v, g, rfl, HG.out⟩, HB.out⟩
def lmL (x : Ln) : List (Int × ByteArray) := if vldL x = true then mvsL x else []
set_option linter.unusedSimpArgs false in
theorem lineMoves_any (bb bo cb tb tu ct : Nat) (x : Ln) (w : World) (hn : x.n ≤ 1000000000000) (hm : x.m ≤ 1000000000000) (hbk : BkC w bb bo x.n x.N x.I x.O) (hic : IC w tb tu x.m x.T) :
    Calls Tryz.prog 126 #[.agg #[.slice (some ⟨bb, bo, none⟩) x.n cb, .slice (some ⟨tb, tu, none⟩) x.m ct]] w fun e W' => (∃ v g, e = .returned v ∧ RowMs w.heap.size W' v (lmL x) g) ∧ Below w.heap.size w W' := by
  have HBB : Hid (∀ a, Below w.heap.size w (w.alloc a)) := fun a => below_all _ _
  have HRW : Hid (∀ w', Below w.heap.size w w' → Calls Tryz.prog 141 #[.agg #[.slice (some ⟨bb, bo, none⟩) x.n cb, .slice (some ⟨tb, tu, none⟩) x.m ct]] w' (RwO x w')) := fun w' hb => by
   refine railwayOf_any bb bo cb tb tu ct x w' hn hm ?_ (hic.keep hb)
   intro k hk
   obtain ⟨h0, h1, h2⟩ := hbk k hk
   have hlt : bb < w.heap.size := World.block_lt_of_cell? w ⟨bb, bo + k * 3, none⟩ h0
   exact ⟨by rw [hb.cell (p := ⟨bb, bo + k * 3, none⟩) hlt]; exact h0, by rw [hb.cell (p := ⟨bb, bo + k * 3 + 1, none⟩) hlt]; exact h1, by rw [hb.cell (p := ⟨bb, bo + k * 3 + 2, none⟩) hlt]; exact h2⟩
  clear hbk hic
  go_enter Tryz.func126, Tryz.ntmps126
  go_wp2_with fail
  refine (HRW.out _ (HBB.out _)).mono ?_
  rintro e w1 ⟨hb1, h1⟩
  have HB1 := Lib.hid ((HBB.out _).trans (hb1.mono (by simp)))
  rcases h1 with ⟨hv, s, rfl, r, gb, cb', gt, ct', rfl, hrw, k1, k2, k3⟩ | ⟨hv, rfl⟩
  ·have HV : Hid (lmL x = mvsL x) := if_pos hv
   have hvl := vldL_true hv
   have HR := Lib.hid hrw
   have hxn : x.n ≤ 5 := hvl.2.1
   have hxm : x.m ≤ 5 := hvl.2.2.1
   clear hb1 hv hrw hvl k1 k2 k3
   go_wp2_with fail
   refine (moves_any _ _).mono ?_
   rintro e w2 ⟨rfl, rfl⟩
   have HB2 : Hid (∀ a, Below w.heap.size w (w1.alloc a)) := fun a => HB1.out.alloc HB1.out.size _
   have HCO : Hid (Calls Tryz.prog 146 #[.func (.func 166) #[] #[.pointer (some ⟨w1.heap.size, 0, none⟩)]] (w1.alloc (.cells #[.pointer (some ⟨r, 0, none⟩)] 174)) fun e W' => (∃ v g, e = .returned v ∧ RowMs (w1.alloc (.cells #[.pointer (some ⟨r, 0, none⟩)] 174)).heap.size W' v (mvsL x) g) ∧ Below (w1.alloc (.cells #[.pointer (some ⟨r, 0, none⟩)] 174)).heap.size (w1.alloc (.cells #[.pointer (some ⟨r, 0, none⟩)] 174)) W') :=
    collect_any w1.heap.size r gb cb' gt ct' x (by omega) (by omega) _ ((Bx.new _ _ _).cell 0) (by simp) (HR.out.below (below_all _ _) (Nat.le_refl _))
   go_wp2_with fail
   refine HCO.out.mono ?_
   rintro e w3 ⟨⟨v, g, rfl, hg⟩, hb3⟩
   have HB3 := Lib.hid ((HB2.out _).trans (hb3.mono (HB2.out _).size))
   have HG : Hid (RowMs w.heap.size w3 v (mvsL x) g) := by
    have hz := (HB2.out (.cells #[.pointer (some ⟨r, 0, none⟩)] 174)).size
    rcases hg with ⟨b, c, e1, e2, e3, e4⟩ | h
    ·exact .inl ⟨b, c, e1, e2, by omega, e4⟩
    ·exact .inr h
   clear hb3 hg
   go_wp2_with fail
   go_ret
   exact ⟨⟨v, g, rfl, by rw [HV.out]; exact HG.out⟩, HB3.out⟩
  ·have HV : Hid (lmL x = []) := by show _ = _; unfold lmL; rw [hv]; rfl
   have HO : Hid (RowMs w.heap.size (w1.alloc (.cells #[] 94)) (.slice (some ⟨w1.heap.size, 0, none⟩) 0 0) [] (some w1.heap.size)) := .inl ⟨_, 0, rfl, rfl, HB1.out.size, own_empty _ _ _ _⟩
   have HB2 : Hid (∀ a, Below w.heap.size w (w1.alloc a)) := fun a => HB1.out.alloc HB1.out.size _
   clear hb1 hv
   go_wp2_with fail
   go_ret
   exact ⟨⟨_, _, rfl, by rw [HV.out]; exact HO.out⟩, HB2.out _⟩
theorem oper_round {P : Program} {o : Oper} {a : Act} {w : World} {K : Act → World → Prop} {Q : Exit → Act → World → Prop} (l n : Nat) (hnd : ∀ c, o.op ≠ .defer c) (h : o.wp P a w K Q) : o.wpIn (Fence.wide.inRound l) n P a w K Q := by
 refine ⟨fun _ _ => trivial, ?_⟩
 unfold Oper.wp at h
 rw [Oper.semAt_eq _ _ _ hnd]
 generalize (execOp a.eval o).run P w = r at *
 cases r with
 | ok x w' =>
  cases x with
  | value v => exact h
  | skip => exact h
  | defer d => exact h
  | enter f args => exact ⟨(fun hd => by cases hd), CallsIn.inRound l (callsIn_wide.2 h)⟩
  | row row args =>
   refine ⟨(fun hd => by cases hd), fun c cs _ => ?_⟩
   obtain ⟨v, w'', h1, h2⟩ := h c cs
   exact ⟨v, w'', h1, stepsIn_wide.2 h2⟩
  | _ => exact h.elim
 | halt x w' =>
  cases x <;> first | exact h | exact h.elim
theorem any_round {P : Program} {md : Region.Mode} {ops : Array Oper} {Q : Exit → Act → World → Prop} (l n : Nat) (hnd : ∀ (i : Nat) (o : Oper), ops[i]? = some o → ∀ c, o.op ≠ .defer c) (hlo : ¬ LetsOut Q) :
    ∀ (fuel : Nat) (listed : Array Bool) (a : Act) (w : World), wpAny P md ops Q fuel listed a w → wpAnyIn (Fence.wide.inRound l) n P md ops Q fuel listed a w
  | 0, listed, a, w, h => h
  | fuel + 1, listed, a, w, h => by
   refine ⟨h.1, fun i hi => ?_⟩
   have h2 := h.2 i hi
   unfold wpOp at h2
   unfold wpOpIn
   cases ho : ops[i]? with
   | none => rw [ho] at h2; exact any_round l n hnd hlo fuel _ _ _ h2
   | some o =>
    rw [ho] at h2
    dsimp only at h2 ⊢
    by_cases hw : Region.wanted o (yielded ops a.tmps) = true
    ·rw [if_pos hw] at h2 ⊢
     rcases h2 with h2 | ⟨_, h2⟩
     ·exact Oper.wpIn_mono (fun a w h => any_round l n hnd hlo fuel _ _ _ h) (oper_round l n (hnd i o ho) h2)
     ·exact absurd h2 hlo
    ·rw [if_neg hw] at h2 ⊢
     exact ⟨fun _ _ => trivial, any_round l n hnd hlo fuel _ _ _ h2⟩
def noDefer (ops : Array Oper) : Bool := ops.all fun o => match o.op with | .defer _ => false | _ => true
theorem noDefer_spec {ops : Array Oper} (h : noDefer ops = true) : ∀ (i : Nat) (o : Oper), ops[i]? = some o → ∀ c, o.op ≠ .defer c := by
 intro i o ho c e
 unfold noDefer at h
 rw [Array.all_eq_true] at h
 obtain ⟨hi, he⟩ := Array.getElem?_eq_some_iff.1 ho
 have := h i hi
 rw [he, e] at this
 cases this
theorem region_round {P : Program} {ops : Array Oper} {Q : Exit → Act → World → Prop} {S : World → Prop} {id l n : Nat} {a : Act} {w : World} (hm : P.follows .mixedOrders = true) (hnd : noDefer ops = true) (hlo : ¬ LetsOut Q)
    (hS : S w.drew) (h : S w.drew → wpAnyH P .any ops Q S ops.size (Array.replicate ops.size false) a w.drew) : (Code.region id ops true).wpIn (Fence.wide.inRound l) n P Q a w :=
  wpIn_region_any hm (any_round l n (noDefer_spec hnd) hlo _ _ _ _ (wpAny_of_held _ _ _ _ (h hS)))
def RowB (w : World) (v : Value) (n : Nat) (f : Nat → Value) (g : Option Nat) : Prop :=
 (∃ b c, g = some b ∧ v = .slice (some ⟨b, 0, none⟩) n c ∧ Own w b c n 3 76 f) ∨ (g = none ∧ n = 0 ∧ v = .slice none 0 0)
theorem RowB.reads {w : World} {v : Value} {n : Nat} {N : Nat → Int} {I O : Nat → Bool} {g : Option Nat} (h : RowB w v n (bkF N I O) g) : BL w v n N I O := by
 rcases h with ⟨b, c, e, e2, h⟩ | ⟨e, e2, e3⟩
 ·exact .inl ⟨b, 0, c, e2, BkC.of_own h⟩
 ·exact .inr ⟨e2, _, _, e3⟩
def Fr2 (z : Nat) (w : World) (g1 g2 : Option Nat) : Prop := (∀ c, g1 = some c → z ≤ c ∧ c < w.heap.size) ∧ (∀ c, g2 = some c → z ≤ c ∧ c < w.heap.size)
def LnN (z : Nat) (w : World) (va vb : Value) (y : Ln) (g1 g2 : Option Nat) : Prop :=
 RowB w va y.n (bkF y.N y.I y.O) g1 ∧ RowI w vb y.m y.T g2 ∧ (∀ c, g1 = some c → g2 ≠ some c) ∧ Fr2 z w g1 g2
theorem LnO.new {z : Nat} {w : World} {v : Value} {y : Ln} (h : LnO z w v y) : ∃ va vb g1 g2, v = .agg #[va, vb] ∧ LnN z w va vb y g1 g2 := by
 obtain ⟨g1, c1, g2, c2, e, h1, h2, h3, h4, h5⟩ := h
 exact ⟨_, _, some g1, some g2, e, .inl ⟨g1, c1, rfl, rfl, h1⟩, .inl ⟨g2, c2, rfl, rfl, h2⟩, fun c e e2 => by cases e; cases e2; exact h3 rfl, fun c e => by cases e; exact ⟨h4, h1.lt⟩, fun c e => by cases e; exact ⟨h5, h2.lt⟩⟩
def zLn : Ln := ⟨0, fun _ => 0, fun _ => false, fun _ => false, 0, fun _ => 0⟩
theorem LrR.get {o : Option Ln} {w w' : World} {e : Ending} (h : LrR o w e w') : Below w.heap.size w w' ∧ ∃ va vb g1 g2, e = .returned (.tuple #[.agg #[va, vb], .bool o.isSome]) ∧ LnN w.heap.size w' va vb (o.getD zLn) g1 g2 := by
 obtain ⟨hb, ⟨rfl, rfl⟩ | ⟨y, v, rfl, rfl, h⟩⟩ := h
 ·exact ⟨hb, _, _, none, none, rfl, .inr ⟨rfl, rfl, rfl⟩, .inr ⟨rfl, rfl, rfl⟩, (fun c e => by cases e), (fun c e => by cases e), (fun c e => by cases e)⟩
 ·obtain ⟨va, vb, g1, g2, rfl, hn⟩ := h.new
  exact ⟨hb, va, vb, g1, g2, rfl, hn⟩
def spI (x : Ln) (k i : Nat) : List (Int × ByteArray) := ((eL.take i).filter (fun c => mvOk x k (chr c))).map fun c => ((k : Int), chr c)
def spU (x : Ln) (k : Nat) : List (Int × ByteArray) := (List.range k).flatMap (fun k => spI x k 7)
def spL (x : Ln) : List (Int × ByteArray) := if vldL x = true then spU x x.n else []
theorem spU_succ (x : Ln) (k : Nat) : spU x (k + 1) = spU x k ++ spI x k 7 := by simp [spU, List.range_succ]
theorem spI_zero (x : Ln) (k : Nat) : spI x k 0 = [] := rfl
theorem spI_yes {x : Ln} {k i : Nat} {c : UInt8} (hc : eL[i]? = some c) (h : mvOk x k (chr c) = true) : spI x k (i + 1) = spI x k i ++ [((k : Int), chr c)] := by
 simp [spI, List.take_add_one, hc, h]
theorem spI_no {x : Ln} {k i : Nat} {c : UInt8} (hc : eL[i]? = some c) (h : mvOk x k (chr c) = false) : spI x k (i + 1) = spI x k i := by
 simp [spI, List.take_add_one, hc, h]
theorem spI_len (x : Ln) (k i : Nat) : (spI x k i).length ≤ i := by
 simp only [spI, List.length_map]
 exact Nat.le_trans (List.length_filter_le _ _) (by simp; omega)
theorem spU_len (x : Ln) : ∀ k, (spU x k).length ≤ 7 * k
  | 0 => by simp [spU]
  | k + 1 => by
   rw [spU_succ, List.length_append]
   have h1 := spU_len x k
   have h2 := spI_len x k 7
   omega
def OwnMs (w : World) (g cap : Nat) (ys : List (Int × ByteArray)) : Prop := Own w g cap ys.length 2 94 (mvF (mvM ys) (mvS ys))
theorem mvM_snoc (ys : List (Int × ByteArray)) (y : Int × ByteArray) {i : Nat} (hi : i < ys.length) : mvM ys i = mvM (ys ++ [y]) i ∧ mvS ys i = mvS (ys ++ [y]) i := by
 unfold mvM mvS
 rw [List.getElem?_append_left hi]
 exact ⟨rfl, rfl⟩
theorem OwnMs.ext {w : World} {g cap : Nat} {ys : List (Int × ByteArray)} (h : OwnMs w g cap ys) (y : Int × ByteArray) : Own w g cap ys.length 2 94 (mvF (mvM (ys ++ [y])) (mvS (ys ++ [y]))) :=
 Own.congr h (mvF_congr (fun _ hk => (mvM_snoc ys y hk).1) (fun _ hk => (mvM_snoc ys y hk).2))
theorem mvF_new (ys : List (Int × ByteArray)) (y : Int × ByteArray) : ∀ j, j < 2 → [Value.int .i64 y.1, .string y.2][j]? = some (mvF (mvM (ys ++ [y])) (mvS (ys ++ [y])) (ys.length * 2 + j)) := fun j hj => by
 match j, hj with
 | 0, _ => unfold mvF; rw [if_pos (by omega), show (ys.length * 2 + 0) / 2 = ys.length by omega]; simp [mvM]
 | 1, _ => unfold mvF; rw [if_neg (by omega), show (ys.length * 2 + 1) / 2 = ys.length by omega]; simp [mvS]
set_option linter.unusedSimpArgs false in
set_option maxRecDepth 100000 in
set_option maxHeartbeats 4000000 in
theorem specLineMoves_any (bb bo cb tb tu ct : Nat) (x : Ln) (w : World) (hn : x.n ≤ 1000000000) (hm : x.m ≤ 1000000000) (hbk : BkC w bb bo x.n x.N x.I x.O) (hic : IC w tb tu x.m x.T) :
    Calls Tryz.prog 82 #[.agg #[.slice (some ⟨bb, bo, none⟩) x.n cb, .slice (some ⟨tb, tu, none⟩) x.m ct]] w fun e W' => (∃ v g, e = .returned v ∧ RowMs w.heap.size W' v (spL x) g) ∧ Below w.heap.size w W' := by
  have HKB : Hid (∀ w', Below w.heap.size w w' → BkC w' bb bo x.n x.N x.I x.O) := fun w' hb => hbk.keep hb
  have HKT : Hid (∀ w', Below w.heap.size w w' → IC w' tb tu x.m x.T) := fun w' hb => hic.keep hb
  have HM0 : Hid (VdM w ((w.alloc (.cells #[.slice (some ⟨bb, bo, none⟩) x.n cb, .slice (some ⟨tb, tu, none⟩) x.m ct] 31)).alloc (.cells #[] 94)) (.slice (some ⟨bb, bo, none⟩) x.n cb) (.slice (some ⟨tb, tu, none⟩) x.m ct)) := ⟨(Bx.new _ _ _).alloc _, (below_all _ _).alloc (by simp) _⟩
  have HO0 : Hid (OwnMs ((w.alloc (.cells #[.slice (some ⟨bb, bo, none⟩) x.n cb, .slice (some ⟨tb, tu, none⟩) x.m ct] 31)).alloc (.cells #[] 94)) (w.heap.size + 1) 0 []) := by
   have h := own_emptyAt (w := w.alloc (.cells #[.slice (some ⟨bb, bo, none⟩) x.n cb, .slice (some ⟨tb, tu, none⟩) x.m ct] 31)) (g := w.heap.size + 1) (s := 2) (t := 94) (f := mvF (mvM []) (mvS [])) (by simp)
   exact h
  clear hbk hic
  go_enter Tryz.func82, Tryz.ntmps82
  go_wp2_with fail
  generalize (w.alloc (.cells #[.slice (some ⟨bb, bo, none⟩) x.n cb, .slice (some ⟨tb, tu, none⟩) x.m ct] 31)).alloc (.cells #[] 94) = W0 at *
  go_loopw [3, 5, 6, 7, 8, 9] (fun o s _ _ _ _ wr => ∃ k g cap : Nat, k ≤ x.n ∧ s = .int .i64 k ∧ o = .slice (some ⟨g, 0, none⟩) (spU x k).length cap ∧ Hid (OwnMs wr g cap (spU x k)) ∧ w.heap.size + 1 ≤ g ∧ Hid (0 < k → vldL x = true) ∧ Hid (VdM w wr (.slice (some ⟨bb, bo, none⟩) x.n cb) (.slice (some ⟨tb, tu, none⟩) x.m ct))) (fun _ s _ _ _ _ _ => x.n - (intOf s).toNat)
  case atStart => exact ⟨0, w.heap.size + 1, 0, Nat.zero_le _, rfl, rfl, HO0, Nat.le_refl _, fun h => by omega, HM0⟩
  case round =>
   obtain ⟨k, g, cap, hk, rfl, rfl, HO, hg, HVK, HM⟩ := hrel
   have hac := HM.out.box.cell
   by_cases hlt : k < x.n
   ·have HLV : Hid (Calls Tryz.prog 80 #[.agg #[.slice (some ⟨bb, bo, none⟩) x.n cb, .slice (some ⟨tb, tu, none⟩) x.m ct]] wr fun e w' => e = .returned (.bool (vldL x)) ∧ Below wr.heap.size wr w') := specLineValid_any bb bo cb tb tu ct x wr (by omega) (by omega) (HKB.out _ HM.out.bl) (HKT.out _ HM.out.bl)
    cases hv : vldL x
    ·have hk0 : k = 0 := by
      rcases Nat.eq_zero_or_pos k with h | h
      ·exact h
      ·have := HVK.out h; rw [this] at hv; cases hv
     have HS : Hid (spL x = spU x k) := by show _ = _; unfold spL; rw [hv, hk0]; rfl
     have HV := Lib.hid hv
     clear hv hk0
     go_wp2_with fail
     refine HLV.out.mono ?_
     rintro e w2 ⟨rfl, hb⟩
     rw [HV.out]
     have HM2 := Lib.hid (HM.out.below hb rfl)
     have HO2 : Hid (OwnMs w2 g cap (spU x k)) := Own.below HO.out hb (Own.lt HO.out)
     clear hb
     go_wp2_with fail
     go_ret
     exact ⟨⟨.slice (some ⟨g, 0, none⟩) (spU x k).length cap, some g, rfl, .inl ⟨g, cap, rfl, by rw [HS.out], by omega, by rw [HS.out]; exact HO2.out⟩⟩, HM2.out.bl⟩
    ·have HV := Lib.hid hv
     have hnb := vldL_true hv
     have hn5 : x.n ≤ 5 := hnb.2.1
     have hm5 : x.m ≤ 5 := hnb.2.2.1
     clear hv hnb
     go_wp2_with fail
     refine HLV.out.mono ?_
     rintro e w2 ⟨rfl, hb⟩
     rw [HV.out]
     have HM2 := Lib.hid (HM.out.below hb rfl)
     have HO2 : Hid (OwnMs w2 g cap (spU x k)) := Own.below HO.out hb (Own.lt HO.out)
     clear hb hac
     go_wp2_with fail
     clear HO HM HLV
     go_loopw [3, 6, 7, 8, 9] (fun o s _ _ _ wr => ∃ (i g cap : Nat) (ys : List (Int × ByteArray)), i ≤ 7 ∧ s = .int .i64 i ∧ o = .slice (some ⟨g, 0, none⟩) ys.length cap ∧ Hid (ys = spU x k ++ spI x k i) ∧ Hid (OwnMs wr g cap ys) ∧ w.heap.size + 1 ≤ g ∧ Hid (VdM w wr (.slice (some ⟨bb, bo, none⟩) x.n cb) (.slice (some ⟨tb, tu, none⟩) x.m ct))) (fun _ s _ _ _ _ => 7 - (intOf s).toNat)
     case atStart => exact ⟨0, g, cap, spU x k, by omega, rfl, rfl, Lib.hid (by rw [spI_zero, List.append_nil]), HO2, hg, HM2⟩
     case round =>
      clear HO2 HM2 hg
      obtain ⟨i, g, cap, ys, hi, rfl, rfl, HYS, HO, hg, HM⟩ := hrel
      have hac := HM.out.box.cell
      have hal := HM.out.box.lt
      by_cases hit : i < 7
      ·obtain ⟨c, hc⟩ : ∃ c, eL[i]? = some c := ⟨_, List.getElem?_eq_getElem (by simpa [eL] using hit)⟩
       have hex : (⟨#[97, 99, 101, 102, 108, 111, 114]⟩ : ByteArray).extract i (i + 1) = chr c := ext_one hc
       have HC := Lib.hid hc
       have hiI : (i : Int) < 7 := by omega
       have hi1 : ¬ (7 : Int) < (i : Int) + 1 := by omega
       have hi2 : i + 1 ≤ 7 := by omega
       clear hc
       have HMa : Hid (∀ a, VdM w (wr.alloc a) (.slice (some ⟨bb, bo, none⟩) x.n cb) (.slice (some ⟨tb, tu, none⟩) x.m ct)) := fun a => HM.out.below ((Below.refl wr.heap.size wr).alloc (Nat.le_refl _) a) rfl
       have HST : Hid (∀ a, Calls Tryz.prog 83 #[.agg #[.slice (some ⟨bb, bo, none⟩) x.n cb, .slice (some ⟨tb, tu, none⟩) x.m ct], .agg #[.int .i64 k, .string (chr c)]] (wr.alloc a) (LrR (stepO x k (chr c)) (wr.alloc a))) := fun a => l4Step_any bb bo cb tb tu ct x k (chr c) (wr.alloc a) (by omega) (by omega) (HKB.out _ (HMa.out a).bl) (HKT.out _ (HMa.out a).bl)
       have HOK : Hid ((stepO x k (chr c)).isSome = mvOk x k (chr c)) := by
        show _ = _
        unfold stepO
        split
        ·rename_i h; rw [h]; rfl
        ·rename_i h; simp at h; rw [h]; rfl
       have HXB : Hid (Bx (wr.alloc (.cells #[.int .i64 k, .string (chr c)] 94)) wr.heap.size 94 #[.int .i64 k, .string (chr c)]) := Bx.new _ _ _
       have HOa : Hid (∀ a, OwnMs (wr.alloc a) g cap ys) := fun a => Own.alloc HO.out a
       have hlen : ys.length ≤ 1000 := by
        rw [HYS.out, List.length_append]
        have h1 := spU_len x k
        have h2 := spI_len x k i
        omega
       go_wp2_with fail
       generalize hs : chr c = s at *
       have HCS := Lib.hid hs
       clear hs
       refine (HST.out _).mono ?_
       rintro e w2 h
       obtain ⟨hb2, va, vb, ga, gb, rfl, hn2⟩ := h.get
       rw [HOK.out]
       generalize (stepO x k s).getD zLn = y at *
       obtain ⟨ao, ca, rfl⟩ := hn2.1.reads.shape
       obtain ⟨bo2, cb2, rfl⟩ := hn2.2.1.reads.shape
       have HM2 := Lib.hid ((HMa.out _).below hb2 rfl)
       have HO2 : Hid (OwnMs w2 g cap ys) := Own.below (HOa.out _) hb2 (Own.lt (HOa.out _))
       have HX2 := Lib.hid (HXB.out.below hb2 HXB.out.lt)
       clear hb2 hn2 h HO HM hac hal hex
       have hxc := HX2.out.cell
       have hxl := HX2.out.lt
       have HM3 : Hid (∀ a, VdM w (w2.alloc a) (.slice (some ⟨bb, bo, none⟩) x.n cb) (.slice (some ⟨tb, tu, none⟩) x.m ct)) := fun a => HM2.out.below ((Below.refl w2.heap.size w2).alloc (Nat.le_refl _) a) rfl
       have HO3 : Hid (∀ a, OwnMs (w2.alloc a) g cap ys) := fun a => Own.alloc HO2.out a
       cases hmo : mvOk x k s
       ·have HE := Lib.hid (spI_no HC.out (show mvOk x k (chr c) = false by rw [HCS.out]; exact hmo))
        clear hmo
        go_wp2_with fail
        go_roundw
        case rel => exact ⟨i + 1, g, cap, ys, by omega, by go_num, rfl, Lib.hid (by rw [HE.out]; exact HYS.out), HO3.out _, hg, HM3.out _⟩
        case measure => simp [intOf]; omega
       ·have HE : Hid (spU x k ++ spI x k (i + 1) = ys ++ [((k : Int), s)]) := by
         show _ = _
         rw [HYS.out, spI_yes HC.out (show mvOk x k (chr c) = true by rw [HCS.out]; exact hmo), HCS.out, List.append_assoc]
        clear hmo
        have HO4 : Hid (∀ a, Own (w2.alloc a) g cap ys.length 2 94 (mvF (mvM (ys ++ [((k : Int), s)])) (mvS (ys ++ [((k : Int), s)])))) := fun a => (HO3.out a).ext _
        have HNW := Lib.hid (mvF_new ys ((k : Int), s))
        go_wp2_with (at_builtin; refine wpList_push elMvL rfl (.tmp 42) (.tmp 44) rfl (HO4.out _) rfl [.int .i64 k, .string s] (by show Value.slice _ 1 1 = _; simp) HNW.out (fun _ _ => mvF_one _ _ _) (by unfold maxLen; omega) (by omega) ?_; intro g' c' wa HA hgr hd)
        have hz := hgr.size
        have hlg : w2.heap.size ≤ (w2.alloc (.cells #[.slice ao y.n ca, .slice bo2 y.m cb2] 31)).heap.size := by simp
        have HG : Hid (w.heap.size + 1 ≤ g') := by
         show _ ≤ _
         have := HM2.out.bl.size
         have := HM2.out.box.lt
         rcases hd with ⟨h, _⟩ | h <;> omega
        have HM4 : Hid (VdM w wa (.slice (some ⟨bb, bo, none⟩) x.n cb) (.slice (some ⟨tb, tu, none⟩) x.m ct)) := ⟨(HM3.out _).box.kept hgr (by omega), (HM3.out _).bl.trans (below_of_grown hgr (by omega) (HM3.out _).bl.size)⟩
        have HA2 : Hid (OwnMs wa g' c' (ys ++ [((k : Int), s)])) := by
         show Own _ _ _ _ _ _ _
         rw [List.length_append]
         exact HA
        clear HA hgr hd hz hlg
        go_wp2_with fail
        go_roundw
        case rel => exact ⟨i + 1, g', c', ys ++ [((k : Int), s)], by omega, by go_num, by simp, Lib.hid HE.out.symm, HA2, HG.out, HM4⟩
        case measure => simp [intOf]; omega
      ·obtain rfl : i = 7 := by omega
       have HU : Hid (ys = spU x (k + 1)) := by show _ = _; rw [spU_succ]; exact HYS.out
       go_wp2_with fail
       go_roundw
       case rel => exact ⟨k + 1, g, cap, by omega, by go_num, by rw [← HU.out], by rw [← HU.out]; exact HO, hg, (by first | exact fun _ => HV.out | exact fun _ => trivial), HM⟩
       case measure => simp [intOf]; omega
   ·obtain e : k = x.n := by omega
    subst e
    have HS : Hid (spL x = spU x x.n) := by
     show _ = _
     unfold spL
     rcases Nat.eq_zero_or_pos x.n with h | h
     ·rw [h]; split <;> rfl
     ·rw [if_pos (HVK.out h)]
    go_wp2_with fail
    go_ret
    exact ⟨⟨.slice (some ⟨g, 0, none⟩) (spU x x.n).length cap, some g, rfl, .inl ⟨g, cap, rfl, by rw [HS.out], by omega, by rw [HS.out]; exact HO.out⟩⟩, HM.out.bl⟩
theorem fst_cnt (f : Nat → Int) (p : Int) : ∀ m, fstA f p m < m ↔ ¬ cntA f p m = 0
  | 0 => by simp [cntA]
  | m + 1 => by
   have ih := fst_cnt f p m
   have hle := fstA_le f p m
   simp only [fstA, cntA]
   by_cases h : fstA f p m < m
   ·rw [if_pos h]
    have := ih.1 h
    omega
   ·rw [if_neg h]
    have h0 : cntA f p m = 0 := Classical.byContradiction (fun q => h (ih.2 q))
    rw [h0]
    by_cases e : f m = p
    ·rw [if_pos e, if_pos e]; omega
    ·rw [if_neg e, if_neg e]; omega
theorem bt_chr (c : UInt8) : bt (chr c) 0 = (c.toNat : Int) := by
 have h : 0 < (chr c).size := by show 0 < 1; omega
 rw [← bt_at h]
 rfl
theorem mvJ_chr (x : Ln) (k : Nat) (c : UInt8) : mvJ x k (chr c) = nx (stI (x.N k) (x.I k) (x.O k)) (c.toNat : Int) := by
 show bsI (x.N k) (x.I k) (x.O k) (chr c) = _
 unfold bsI
 rw [if_pos (show (chr c).size = 1 from rfl), bt_chr]
theorem chr_eq (c d : UInt8) : (chr c = chr d) ↔ c = d := by
 constructor
 ·intro h
  have := congrArg (fun b : ByteArray => b.data) h
  simpa [chr] using this
 ·intro h; rw [h]
theorem mvOk_chr {x : Ln} (hv : vldL x = true) {k : Nat} (hk : k < x.n) (c : UInt8) : mvOk x k (chr c) = (!mvSk x k c && decide (nx (stI (x.N k) (x.I k) (x.O k)) (c.toNat : Int) < 5)) := by
 obtain ⟨_, _, _, _, _, hcn⟩ := vldL_true hv
 have hin : inB (k : Int) 0 ((x.n : Int) - 1) = true := inB_true.2 (by omega)
 unfold mvOk
 rw [hin, mvJ_chr, Bool.true_and]
 by_cases h1 : c = 101
 ·subst h1
  have he : eB (chr 101) = true := decide_eq_true rfl
  have hp : plI (k : Int) (chr 101) = 2 * k := if_pos he
  rw [he, hp, Bool.true_or, Bool.not_true, Bool.false_or]
  unfold mvSk
  have hd : decide (fstA x.T (2 * (k : Int)) x.m < x.m) = !decide (cntA x.T (2 * (k : Int)) x.m = 0) := by
   by_cases h : cntA x.T (2 * (k : Int)) x.m = 0
   ·rw [decide_eq_true h, decide_eq_false (fun q => (fst_cnt _ _ _).1 q h)]; rfl
   ·rw [decide_eq_false h, decide_eq_true ((fst_cnt _ _ _).2 h)]; rfl
  rw [hd, decide_eq_true rfl, Bool.true_and, Bool.and_comm]
 ·have he : eB (chr c) = false := decide_eq_false (fun h => h1 ((chr_eq c 101).1 h))
  have hs : mvSk x k c = false := by unfold mvSk; rw [decide_eq_false h1]; rfl
  rw [he, hs]
  by_cases h2 : c = 108
  ·subst h2
   have hl : lB (chr 108) = true := decide_eq_true rfl
   have hp : plI (k : Int) (chr 108) = 2 * k + 1 := by unfold plI; rw [if_neg (by simp [he]), if_pos hl]
   rw [hl, hp]
   by_cases h5 : nx (stI (x.N k) (x.I k) (x.O k)) ((108 : UInt8).toNat : Int) < 5
   ·rw [decide_eq_true h5]
    have hst : stI (x.N k) (x.I k) (x.O k) = 3 := by
     revert h5
     generalize stI (x.N k) (x.I k) (x.O k) = s
     intro h5
     match s with
     | 0 => revert h5; decide
     | 1 => revert h5; decide
     | 2 => revert h5; decide
     | 3 => rfl
     | 4 => revert h5; decide
     | s + 5 => revert h5; simp [nx]
    have hI : x.I k = true := (stI_B hst (by omega)).2.1
    have hc := hcn k hk
    unfold cnOk at hc
    rw [hI] at hc
    have hc1 : cntA x.T (2 * (k : Int) + 1) x.m = 1 := by simpa using hc
    have hf : fstA x.T (2 * (k : Int) + 1) x.m < x.m := (fst_cnt _ _ _).2 (by omega)
    rw [decide_eq_true hf]
    rfl
   ·rw [decide_eq_false h5]
    rfl
  ·have hl : lB (chr c) = false := decide_eq_false (fun h => h2 ((chr_eq c 108).1 h))
   rw [hl]
   simp
theorem spI_mvK {x : Ln} (hv : vldL x = true) {k : Nat} (hk : k < x.n) : spI x k 7 = mvK x k := by
 unfold spI mvK mvI mvLt nxT
 rw [List.take_length, List.filter_filter]
 congr 1
 apply List.filter_congr
 intro c _
 exact mvOk_chr hv hk c
theorem spU_mvU {x : Ln} (hv : vldL x = true) : ∀ k, k ≤ x.n → spU x k = mvU x k
  | 0, _ => by simp [spU, mvU]
  | k + 1, hk => by rw [spU_succ, mvU_succ, spU_mvU hv k (by omega), spI_mvK hv (by omega)]
theorem spL_lmL (x : Ln) : spL x = lmL x := by
 unfold spL lmL
 by_cases hv : vldL x = true
 ·rw [if_pos hv, if_pos hv, spU_mvU hv x.n (Nat.le_refl _)]; rfl
 ·rw [if_neg hv, if_neg hv]
theorem lmL_len (x : Ln) : (lmL x).length ≤ 35 := by
 unfold lmL
 split
 ·rename_i h
  have h1 := (vldL_true h).2.1
  have h2 := mvU_len x x.n
  unfold mvsL
  omega
 ·simp
end Go.Proofs.YtlkdmpfifpkpaaaGreatDoor

