/-
  The program's LineStep, LineLeft, LineDone, LineWaits.
  The reference's LineStep, l4Done, LineDone, and LineLeft of a line that is not valid.
  LineNew, of the program and of the reference.
  The draw of a line.
  Plain laws on lines: what a move saves; the run of LineFinish's moves; when a line is done. No program in sight.
  The draws of lines; sameMoves and sameLine.
  What a law on lines keeps: its line's box; the contracts at it.
-/
import Derived.Test.YtbachpfgakjncaaNb
import Derived.Test.YtbachpfgakjncaaLr
import Derived.Test.YtbachpfgakjncaaNd
import Derived.Test.YtbachpfgakjncaaEf
import Derived.Test.YtbachpfgakjncaaSm
import Derived.Test.YtbachpfgakjncaaRx
import Derived.Test.YtbachpfgakjncaaEg
namespace Go.Proofs.Ytbachpfgakjncaa
open Go.RowKit

theorem railway_at {bb bo cb tb tu ct : Nat} {x : Ln} {w : World} (hn : x.n ≤ 1000000000000) (hm : x.m ≤ 1000000000000) (hbk : BkC w bb bo x.n x.N x.I x.O) (hic : IC w tb tu x.m x.T) :
    ∀ w', Below w.heap.size w w' → Calls Try.prog 46 #[.agg #[.slice (some ⟨bb, bo, none⟩) x.n cb, .slice (some ⟨tb, tu, none⟩) x.m ct]] w' (RwO x w') := fun w' hb => railwayOf_any bb bo cb tb tu ct x w' hn hm (hbk.keep hb) (hic.keep hb)
def stO (x : Ln) (s : Int) (l : ByteArray) : Option Ln := if vldL x = true then stepO x s l else none
set_option linter.unusedSimpArgs false in
set_option maxHeartbeats 2000000 in
theorem lineStep_any (bb bo cb tb tu ct : Nat) (x : Ln) (s : Int) (l : ByteArray) (w : World) (hn : x.n ≤ 1000000000000) (hm : x.m ≤ 1000000000000) (hbk : BkC w bb bo x.n x.N x.I x.O) (hic : IC w tb tu x.m x.T) :
    Calls Try.prog 15 #[.agg #[.slice (some ⟨bb, bo, none⟩) x.n cb, .slice (some ⟨tb, tu, none⟩) x.m ct], .agg #[.int .i64 s, .string l]] w (LrR (stO x s l) w) := by
  have HBB : Hid (∀ a b c, Below w.heap.size w (((w.alloc a).alloc b).alloc c)) := fun a b c => ((below_all _ _).alloc (by simp) _).alloc (by simp; omega) _
  have HRW := Lib.hid (railway_at (cb := cb) (ct := ct) hn hm hbk hic)
  clear hbk hic
  go_enter Try.func15, Try.ntmps15
  go_wp2_with fail
  refine (HRW.out _ (HBB.out _ _ _)).mono ?_
  rintro e w1 ⟨hb1, h1⟩
  have HX1 : Hid (Bx w1 (w.heap.size + 1 + 1) 26 #[.slice none 0 0, .slice none 0 0]) := (Bx.newAt (by simp)).below hb1 (by simp)
  have HM1 : Hid (Bx w1 (w.heap.size + 1) 34 #[.int .i64 s, .string l]) := ((Bx.newAt (by simp)).alloc _).below hb1 (by simp)
  have HB1 : Hid (Below w.heap.size w w1) := (HBB.out _ _ _).trans (hb1.mono (by simp; omega))
  have hrc := HX1.out.cell
  have hrf := HX1.out.free
  have hmc := HM1.out.cell
  have hxl := HX1.out.lt
  rcases h1 with ⟨hv, s', rfl, hs⟩ | ⟨hv, rfl⟩
  · obtain ⟨r, gb, cb', gt, ct', rfl, hrw, k1, k2, k3⟩ := hs
    simp only [World.size_alloc] at k1 k2 k3
    have HR := Lib.hid hrw
    have HV : Hid (stO x s l = stepO x s l) := if_pos hv
    have hMO := move_any (w.heap.size + 1 + 1 + 1) r gb cb' gt ct' x s l w1 hn hm hrw ⟨by omega, by omega, by omega⟩
    have HMO := Lib.hid hMO
    clear hb1 hv hrw hMO
    cases ho : mvOk x s l
    · have HO := Lib.hid ho
      have HN : Hid (stO x s l = none) := by show _ = _; rw [HV.out]; unfold stepO; rw [ho]; rfl
      clear ho
      go_wp2_with fail
      refine HMO.out.mono ?_
      rintro e w2 ⟨rfl, hr2, hb2⟩
      rw [HO.out]
      have HX2 := Lib.hid (HX1.out.below hb2 (by omega))
      have HB2 : Hid (Below w.heap.size w w2) := HB1.out.trans (hb2.mono (by omega))
      clear hr2 hb2 hrc hrf hmc
      have hrc := HX2.out.cell
      have hrf := HX2.out.free
      go_wp2_with fail
      exact bodyPost_ret (v := .tuple #[nilLn, .bool false]) (by simp [results, Try.results15, go_sem, hrc, nilLn]) rfl ⟨(HB2.out.setCell (by dsimp only; omega) _).setCell (by dsimp only; omega) _, .inl ⟨HN.out, rfl⟩⟩
    · have HO := Lib.hid ho
      have HN : Hid (stO x s l = some (mvTo x s l)) := by show _ = _; rw [HV.out]; unfold stepO; rw [ho]; rfl
      clear ho
      go_wp2_with fail
      refine HMO.out.mono ?_
      rintro e w2 ⟨rfl, hr2, hb2⟩
      rw [HO.out]
      rw [HO.out, if_pos rfl] at hr2
      have HR2 := Lib.hid hr2
      have HX2 := Lib.hid (HX1.out.below hb2 (by omega))
      have HB2 : Hid (Below w.heap.size w w2) := HB1.out.trans (hb2.mono (by omega))
      clear hr2 hb2 hrc hrf hmc
      have HLI : Hid (Calls Try.prog 52 #[.pointer (some ⟨r, 0, none⟩)] w2 fun e w' => ∃ v, e = .returned v ∧ LnO w2.heap.size w' v (mvTo x s l) ∧ Below w2.heap.size w2 w') := line_any r gb cb' gt ct' (mvTo x s l) _ hn hm HR2.out
      go_wp2_with fail
      refine HLI.out.mono ?_
      rintro e w3 ⟨v, rfl, hl, hb⟩
      have HL3 := Lib.hid hl
      have HX3 := Lib.hid (HX2.out.below hb HX2.out.lt)
      have hz3 := HX2.out.lt
      have HB3 := Lib.hid (HB2.out.trans (hb.mono HB2.out.size))
      obtain ⟨g1, c1, g2, c2, rfl, _⟩ := hl
      clear hb
      have hrc := HX3.out.cell
      have hrf := HX3.out.free
      go_wp2_with fail
      refine bodyPost_ret (v := .tuple #[.agg #[.slice (some ⟨g1, 0, none⟩) (mvTo x s l).n c1, .slice (some ⟨g2, 0, none⟩) (mvTo x s l).m c2], .bool true]) (by simp [results, Try.results15, go_sem, hrc]) rfl ⟨(HB3.out.setCell (by dsimp only; omega) _).setCell (by dsimp only; omega) _, .inr ⟨mvTo x s l, _, HN.out, rfl, (((HL3.out.mono (D := w.heap.size + 3) (by omega)).setOther (by omega) _).setOther (by omega) _).mono (by omega)⟩⟩
  · have HN : Hid (stO x s l = none) := by show _ = _; unfold stO; rw [hv]; rfl
    clear hv hb1
    go_wp2_with fail
    exact bodyPost_ret (v := .tuple #[nilLn, .bool false]) (by simp [results, Try.results15, go_sem, hrc, nilLn]) rfl ⟨(HB1.out.setCell (by dsimp only; omega) _).setCell (by dsimp only; omega) _, .inl ⟨HN.out, rfl⟩⟩
/-- what LineLeft gives -/
def lefO (x : Ln) : Int := if vldL x = true then lefS x x.n else -1
set_option linter.unusedSimpArgs false in
set_option maxHeartbeats 2000000 in
theorem lineLeft_any (bb bo cb tb tu ct : Nat) (x : Ln) (w : World) (hn : x.n ≤ 1000000000000) (hm : x.m ≤ 1000000000000) (hbk : BkC w bb bo x.n x.N x.I x.O) (hic : IC w tb tu x.m x.T) :
    Calls Try.prog 32 #[.agg #[.slice (some ⟨bb, bo, none⟩) x.n cb, .slice (some ⟨tb, tu, none⟩) x.m ct]] w fun e w' => e = .returned (.int .i64 (lefO x)) ∧ Below w.heap.size w w' := by
  have HBB : Hid (∀ a, Below w.heap.size w (w.alloc a)) := fun a => below_all _ _
  have HRW := Lib.hid (railway_at (cb := cb) (ct := ct) hn hm hbk hic)
  clear hbk hic
  go_enter Try.func32, Try.ntmps32
  go_wp2_with fail
  refine (HRW.out _ (HBB.out _)).mono ?_
  rintro e w1 ⟨hb1, h1⟩
  have HB1 := Lib.hid ((HBB.out _).trans (hb1.mono (by simp)))
  rcases h1 with ⟨hv, s, rfl, r, gb, cb', gt, ct', rfl, hrw, k1, k2, k3⟩ | ⟨hv, rfl⟩
  · have HV : Hid (lefO x = lefS x x.n) := if_pos hv
    have hvl := vldL_true hv
    have HLM := Lib.hid (leftMoves_any r gb cb' gt ct' x w1 (by omega) (by omega) hrw)
    clear hb1 hv hrw hvl k1 k2 k3
    go_wp2_with fail
    refine HLM.out.mono ?_
    rintro e w2 ⟨rfl, hb2⟩
    have HB2 := Lib.hid (HB1.out.trans (hb2.mono HB1.out.size))
    clear hb2
    go_wp2_with fail
    go_ret
    exact ⟨by rw [HV.out]; rfl, HB2.out⟩
  · have HV : Hid (lefO x = -1) := by show _ = _; unfold lefO; rw [hv]; rfl
    clear hv hb1
    go_wp2_with fail
    go_ret
    exact ⟨by rw [HV.out]; rfl, HB1.out⟩
/-- a block is normal -/
def nrmB (x : Ln) (k : Nat) : Bool := decide (x.N k = 0) && (!x.I k && !x.O k)
/-- what LineDone gives -/
def donL (x : Ln) : Bool := vldL x && (decide (cntA x.T (2 * x.n) x.m = x.m) && allB x.n (nrmB x))
set_option linter.unusedSimpArgs false in
set_option maxRecDepth 100000 in
set_option maxHeartbeats 2000000 in
theorem lineDone_any (bb bo cb tb tu ct : Nat) (x : Ln) (w : World) (hn : x.n ≤ 1000000000000) (hm : x.m ≤ 1000000000000) (hbk : BkC w bb bo x.n x.N x.I x.O) (hic : IC w tb tu x.m x.T) :
    Calls Try.prog 34 #[.agg #[.slice (some ⟨bb, bo, none⟩) x.n cb, .slice (some ⟨tb, tu, none⟩) x.m ct]] w fun e w' => e = .returned (.bool (donL x)) ∧ Below w.heap.size w w' := by
  have HBB : Hid (∀ a, Below w.heap.size w (w.alloc a)) := fun a => below_all _ _
  have HRW := Lib.hid (railway_at (cb := cb) (ct := ct) hn hm hbk hic)
  clear hbk hic
  go_enter Try.func34, Try.ntmps34
  go_wp2_with fail
  refine (HRW.out _ (HBB.out _)).mono ?_
  rintro e w1 ⟨hb1, h1⟩
  have HB1 := Lib.hid ((HBB.out _).trans (hb1.mono (by simp)))
  rcases h1 with ⟨hv, s, rfl, r, gb, cb', gt, ct', rfl, hrw, k1, k2, k3⟩ | ⟨hv, rfl⟩
  · have hvl := vldL_true hv
    have hn5 : x.n ≤ 5 := hvl.2.1
    have hm5 : x.m ≤ 5 := hvl.2.2.1
    have HV := Lib.hid hv
    have HR := Lib.hid hrw
    have hrc := hrw.box.cell
    clear hb1 hv hrw hvl k1 k2 k3
    have HCO : Hid (∀ W, Below w1.heap.size w1 W → Calls Try.prog 73 #[.pointer (some ⟨r, 0, none⟩), .int .i64 (2 * x.n)] W fun e w' => e = .returned (.int .i64 (cntA x.T (2 * x.n) x.m)) ∧ W = w') := fun W hW => count_any r _ gt 0 x.m ct' x.T (2 * x.n) W (by omega) (HR.out.below hW (Nat.le_refl _)).box (HR.out.below hW (Nat.le_refl _)).ic
    have HWR : Hid (IntKind.i64.wrap (2 * (x.n : Int)) = 2 * (x.n : Int)) := IntWalk.i64_in _ (by omega)
    go_wp2_with fail
    refine wp_region_held_drew (S := (fun w' => w'.cell? ⟨r, 0, none⟩ = some (.slice (some ⟨gb, 0, none⟩) x.n cb') ∧ w'.cell? ⟨r, 1, none⟩ = some (.slice (some ⟨gt, 0, none⟩) x.m ct'))) (by kernel_rfl) ?_ (fun hHeld => ?_)
    · try dsimp only
      go_keep
    refine wpAnyH_take (i := 0) (oi := ?_) (v := ?_) ?_ (by kernel_rfl) (by kernel_rfl) (by kernel_rfl) ?_ ?_ (by assumption) ?_
    rotate_left 2
    · simp only [List.getElem?_toArray, List.getElem?_cons_succ, List.getElem?_cons_zero]; rfl
    · exact fun _ _ _ h => h
    · first
        | (refine Or.inr ⟨?_, ?_⟩ <;> rfl)
        | (refine Or.inl ⟨?_, ?_⟩; · rfl
           intro w hSw; (try dsimp only at hSw); go_simp; (try with_reducible rfl); done)
    try simp only [Act.put, List.setIfInBounds_toArray, List.set_cons_zero, List.set_cons_succ]
    refine wpAnyH_take (i := 1) (oi := ?_) (v := ?_) ?_ (by kernel_rfl) (by kernel_rfl) (by kernel_rfl) ?_ ?_ (by assumption) ?_
    rotate_left 2
    · simp only [List.getElem?_toArray, List.getElem?_cons_succ, List.getElem?_cons_zero]; rfl
    · exact fun _ _ _ h => h
    · first
        | (refine Or.inr ⟨?_, ?_⟩ <;> rfl)
        | (refine Or.inl ⟨?_, ?_⟩; · rfl
           intro w hSw; (try dsimp only at hSw); go_simp; (try with_reducible rfl); done)
    try simp only [Act.put, List.setIfInBounds_toArray, List.set_cons_zero, List.set_cons_succ]
    refine wpAnyH_take (i := 2) (oi := ?_) (v := ?_) ?_ (by kernel_rfl) (by kernel_rfl) (by kernel_rfl) ?_ ?_ (by assumption) ?_
    rotate_left 2
    · simp only [List.getElem?_toArray, List.getElem?_cons_succ, List.getElem?_cons_zero]; rfl
    · exact fun _ _ _ h => h
    · first
        | (refine Or.inr ⟨?_, ?_⟩ <;> rfl)
        | (refine Or.inl ⟨?_, ?_⟩; · rfl
           intro w hSw; (try dsimp only at hSw); go_simp; (try with_reducible rfl); done)
    try simp only [Act.put, List.setIfInBounds_toArray, List.set_cons_zero, List.set_cons_succ]
    refine wpAnyH_take (i := 3) (oi := ?_) (v := ?_) ?_ (by kernel_rfl) (by kernel_rfl) (by kernel_rfl) ?_ ?_ (by assumption) ?_
    rotate_left 2
    · simp only [List.getElem?_toArray, List.getElem?_cons_succ, List.getElem?_cons_zero]; rfl
    · exact fun _ _ _ h => h
    · first
        | (refine Or.inr ⟨?_, ?_⟩ <;> rfl)
        | (refine Or.inl ⟨?_, ?_⟩; · rfl
           intro w hSw; (try dsimp only at hSw); go_simp; (try with_reducible rfl); done)
    try simp only [Act.put, List.setIfInBounds_toArray, List.set_cons_zero, List.set_cons_succ]
    refine wpAnyH_take (i := 4) (oi := ?_) (v := ?_) ?_ (by kernel_rfl) (by kernel_rfl) (by kernel_rfl) ?_ ?_ (by assumption) ?_
    rotate_left 2
    · simp only [List.getElem?_toArray, List.getElem?_cons_succ, List.getElem?_cons_zero]; rfl
    · exact fun _ _ _ h => h
    · first
        | (refine Or.inr ⟨?_, ?_⟩ <;> rfl)
        | (refine Or.inl ⟨?_, ?_⟩; · rfl
           intro w hSw; (try dsimp only at hSw); go_simp; (try with_reducible rfl); done)
    try simp only [Act.put, List.setIfInBounds_toArray, List.set_cons_zero, List.set_cons_succ]
    refine wpAnyH_take (i := 5) (oi := ?_) (v := ?_) ?_ (by kernel_rfl) (by kernel_rfl) (by kernel_rfl) ?_ ?_ (by assumption) ?_
    rotate_left 2
    · simp only [List.getElem?_toArray, List.getElem?_cons_succ, List.getElem?_cons_zero]; rfl
    · exact fun _ _ _ h => h
    · first
        | (refine Or.inr ⟨?_, ?_⟩ <;> rfl)
        | (refine Or.inl ⟨?_, ?_⟩; · rfl
           intro w hSw; (try dsimp only at hSw); go_simp; (try with_reducible rfl); done)
    try simp only [Act.put, List.setIfInBounds_toArray, List.set_cons_zero, List.set_cons_succ]
    refine wpAnyH_take (i := 6) (oi := ?_) (v := ?_) ?_ (by kernel_rfl) (by kernel_rfl) (by kernel_rfl) ?_ ?_ (by assumption) ?_
    rotate_left 2
    · simp only [List.getElem?_toArray, List.getElem?_cons_succ, List.getElem?_cons_zero]; rfl
    · exact fun _ _ _ h => h
    · first
        | (refine Or.inr ⟨?_, ?_⟩ <;> rfl)
        | (refine Or.inl ⟨?_, ?_⟩; · rfl
           intro w hSw; (try dsimp only at hSw); go_simp; (try with_reducible rfl); done)
    try simp only [Act.put, List.setIfInBounds_toArray, List.set_cons_zero, List.set_cons_succ]
    refine wpAnyH_take (i := 7) (oi := ?_) (v := ?_) ?_ (by kernel_rfl) (by kernel_rfl) (by kernel_rfl) ?_ ?_ (by assumption) ?_
    rotate_left 2
    · simp only [List.getElem?_toArray, List.getElem?_cons_succ, List.getElem?_cons_zero]; rfl
    · exact fun _ _ _ h => h
    · first
        | (refine Or.inr ⟨?_, ?_⟩ <;> rfl)
        | (refine Or.inl ⟨?_, ?_⟩; · rfl
           intro w hSw; (try dsimp only at hSw); go_simp; (try with_reducible rfl); done)
    try simp only [Act.put, List.setIfInBounds_toArray, List.set_cons_zero, List.set_cons_succ]
    refine wpAnyH_take (i := 8) (oi := ?_) (v := ?_) ?_ (by kernel_rfl) (by kernel_rfl) (by kernel_rfl) ?_ ?_ (by assumption) ?_
    rotate_left 2
    · simp only [List.getElem?_toArray, List.getElem?_cons_succ, List.getElem?_cons_zero]; rfl
    · exact fun _ _ _ h => h
    · first
        | (refine Or.inr ⟨?_, ?_⟩ <;> rfl)
        | (refine Or.inl ⟨?_, ?_⟩; · rfl
           intro w hSw; (try dsimp only at hSw); go_simp; (try with_reducible rfl); done)
    try simp only [Act.put, List.setIfInBounds_toArray, List.set_cons_zero, List.set_cons_succ]
    refine wpAnyH_take (i := 9) (oi := ?_) (v := ?_) ?_ (by kernel_rfl) (by kernel_rfl) (by kernel_rfl) ?_ ?_ (by assumption) ?_
    rotate_left 2
    · simp only [List.getElem?_toArray, List.getElem?_cons_succ, List.getElem?_cons_zero]; rfl
    · exact fun _ _ _ h => h
    · first
        | (refine Or.inr ⟨?_, ?_⟩ <;> rfl)
        | (refine Or.inl ⟨?_, ?_⟩; · rfl
           intro w hSw; (try dsimp only at hSw); go_simp; (try with_reducible rfl); done)
    try simp only [Act.put, List.setIfInBounds_toArray, List.set_cons_zero, List.set_cons_succ]
    refine wpAnyH_take (i := 11) (oi := ?_) (v := ?_) ?_ (by kernel_rfl) (by kernel_rfl) (by kernel_rfl) ?_ ?_ (by assumption) ?_
    rotate_left 2
    · simp only [List.getElem?_toArray, List.getElem?_cons_succ, List.getElem?_cons_zero]; rfl
    · exact fun _ _ _ h => h
    · first
        | (refine Or.inr ⟨?_, ?_⟩ <;> rfl)
        | (refine Or.inl ⟨?_, ?_⟩; · rfl
           intro w hSw; (try dsimp only at hSw); go_simp; (try with_reducible rfl); done)
    try simp only [Act.put, List.setIfInBounds_toArray, List.set_cons_zero, List.set_cons_succ]
    refine wpAnyH_take (i := 12) (oi := ?_) (v := ?_) ?_ (by kernel_rfl) (by kernel_rfl) (by kernel_rfl) ?_ ?_ (by assumption) ?_
    rotate_left 2
    · simp only [List.getElem?_toArray, List.getElem?_cons_succ, List.getElem?_cons_zero]; rfl
    · exact fun _ _ _ h => h
    · first
        | (refine Or.inr ⟨?_, ?_⟩ <;> rfl)
        | (refine Or.inl ⟨?_, ?_⟩; · rfl
           intro w hSw; (try dsimp only at hSw); go_simp; (try with_reducible rfl); done)
    try simp only [Act.put, List.setIfInBounds_toArray, List.set_cons_zero, List.set_cons_succ]
    refine wpAnyH_take (i := 13) (oi := ?_) (v := ?_) ?_ (by kernel_rfl) (by kernel_rfl) (by kernel_rfl) ?_ ?_ (by assumption) ?_
    rotate_left 2
    · simp only [List.getElem?_toArray, List.getElem?_cons_succ, List.getElem?_cons_zero]; rfl
    · exact fun _ _ _ h => h
    · first
        | (refine Or.inr ⟨?_, ?_⟩ <;> rfl)
        | (refine Or.inl ⟨?_, ?_⟩; · rfl
           intro w hSw; (try dsimp only at hSw); go_simp; (try with_reducible rfl); done)
    try simp only [Act.put, List.setIfInBounds_toArray, List.set_cons_zero, List.set_cons_succ]
    refine wpAnyH_take (i := 14) (oi := ?_) (v := ?_) ?_ (by kernel_rfl) (by kernel_rfl) (by kernel_rfl) ?_ ?_ (by assumption) ?_
    rotate_left 2
    · simp only [List.getElem?_toArray, List.getElem?_cons_succ, List.getElem?_cons_zero]; rfl
    · exact fun _ _ _ h => h
    · first
        | (refine Or.inr ⟨?_, ?_⟩ <;> rfl)
        | (refine Or.inl ⟨?_, ?_⟩; · rfl
           intro w hSw; (try dsimp only at hSw); go_simp; (try with_reducible rfl); done)
    try simp only [Act.put, List.setIfInBounds_toArray, List.set_cons_zero, List.set_cons_succ]
    refine wpAnyH_take (i := 15) (oi := ?_) (v := ?_) ?_ (by kernel_rfl) (by kernel_rfl) (by kernel_rfl) ?_ ?_ (by assumption) ?_
    rotate_left 2
    · simp only [List.getElem?_toArray, List.getElem?_cons_succ, List.getElem?_cons_zero]; rfl
    · exact fun _ _ _ h => h
    · first
        | (refine Or.inr ⟨?_, ?_⟩ <;> rfl)
        | (refine Or.inl ⟨?_, ?_⟩; · rfl
           intro w hSw; (try dsimp only at hSw); go_simp; (try with_reducible rfl); done)
    try simp only [Act.put, List.setIfInBounds_toArray, List.set_cons_zero, List.set_cons_succ]
    refine wpAnyH_ready (rs := [10]) (by kernel_rfl) (by simp) ?_
    refine AllReadyH.cons (o := ?_) ?_ (fun K hK => ?_) AllReadyH.nil
    rotate_left 1
    · simp only [List.getElem?_toArray, List.getElem?_cons_succ, List.getElem?_cons_zero]; rfl
    go_simp
    go_at_call 73
    rw [HWR.out]
    go_must (refine Calls.mono (HCO.out _ (Below.refl _ w1).drew) ?_)
    rintro e w2 ⟨rfl, rfl⟩
    refine hK.out _ _ ?_ (fun hHeld => ?_)
    · try dsimp only
      go_keep
    clear hK K
    try simp only [Act.put, List.setIfInBounds_toArray, List.set_cons_zero, List.set_cons_succ]
    refine wpAnyH_take (i := 16) (oi := ?_) (v := ?_) ?_ (by kernel_rfl) (by kernel_rfl) (by kernel_rfl) ?_ ?_ (by assumption) ?_
    rotate_left 2
    · simp only [List.getElem?_toArray, List.getElem?_cons_succ, List.getElem?_cons_zero]; rfl
    · exact fun _ _ _ h => h
    · first
        | (refine Or.inr ⟨?_, ?_⟩ <;> rfl)
        | (refine Or.inl ⟨?_, ?_⟩; · rfl
           intro w hSw; (try dsimp only at hSw); go_simp; (try with_reducible rfl); done)
    try simp only [Act.put, List.setIfInBounds_toArray, List.set_cons_zero, List.set_cons_succ]
    refine wpAnyH_take (i := 17) (oi := ?_) (v := ?_) ?_ (by kernel_rfl) (by kernel_rfl) (by kernel_rfl) ?_ ?_ (by assumption) ?_
    rotate_left 2
    · simp only [List.getElem?_toArray, List.getElem?_cons_succ, List.getElem?_cons_zero]; rfl
    · exact fun _ _ _ h => h
    · first
        | (refine Or.inr ⟨?_, ?_⟩ <;> rfl)
        | (refine Or.inl ⟨?_, ?_⟩; · rfl
           intro w hSw; (try dsimp only at hSw); go_simp; (try with_reducible rfl); done)
    try simp only [Act.put, List.setIfInBounds_toArray, List.set_cons_zero, List.set_cons_succ]
    refine wpAnyH_done (by kernel_rfl) ?_ _
    by_cases hc : cntA x.T (2 * x.n) x.m = x.m
    · have hc1 : ((cntA x.T (2 * x.n) x.m : Int) != (x.m : Int)) = false := by simp; omega
      have HC := Lib.hid hc
      clear hc
      have HB2 : Hid (Below w.heap.size w w1.drew) := HB1.out.drew
      have HR2 : Hid (RwC w1.drew r gb cb' gt ct' x) := HR.out.drew
      clear hrc HB1 HR HCO hHeld
      generalize w1.drew = w2 at *
      have hrc := HR2.out.box.cell
      go_wp2_with fail
      go_loopw [6, 35] (fun _ i wr => ∃ k : Nat, k ≤ x.n ∧ i = .int .i64 k ∧ Hid (∀ j, j < k → nrmB x j = true) ∧ Hid (Below w2.heap.size w2 wr)) (fun _ i _ => x.n - (intOf i).toNat)
      case atStart => exact ⟨0, Nat.zero_le _, rfl, (fun j hj => by omega), Below.refl _ _⟩
      case round =>
        obtain ⟨k, hk, rfl, HAL, HBV⟩ := hrel
        by_cases hlt : k < x.n
        · have HRk := Lib.hid (HR2.out.below HBV.out (Nat.le_refl _))
          obtain ⟨d0, d1, d2⟩ := HRk.out.bl hlt
          have HN : Hid (nrmB x k = (decide (x.N k = 0) && (!x.I k && !x.O k))) := rfl
          revert d0 d1 d2 HN
          generalize x.N k = xn
          generalize x.I k = xi
          generalize x.O k = xo
          intro d0 d1 d2 HN
          by_cases hb : (decide (xn = 0) && (!xi && !xo)) = true
          · simp only [Bool.and_eq_true, decide_eq_true_eq, Bool.not_eq_true'] at hb
            obtain ⟨rfl, rfl, rfl⟩ := hb
            have HNT : Hid (nrmB x k = true) := HN.out
            clear HN
            go_wp2_with fail
            go_roundw
            case rel => exact ⟨k + 1, by omega, by go_num, (fun j hj => by
              rcases Nat.lt_or_ge j k with h | h
              · exact HAL.out j h
              · obtain rfl : j = k := by omega
                exact HNT.out), HBV.out.alloc HBV.out.size _⟩
            case measure => simp [intOf]; omega
          · have HNF : Hid (nrmB x k = false) := by
              show _ = _
              rw [HN.out]
              exact Bool.eq_false_iff.2 hb
            have HDF : Hid (donL x = false) := by show _ = _; unfold donL; rw [allB_not hlt HNF.out]; simp
            clear HN HNF
            by_cases hn0 : xn = 0
            · subst hn0
              cases xi <;> cases xo
              · exact absurd rfl hb
              all_goals
                clear hb
                go_wp2_with fail
                go_ret
                exact ⟨by rw [HDF.out]; rfl, HB2.out.trans ((HBV.out.alloc HBV.out.size _).mono HB2.out.size)⟩
            · have hn1 : (xn == 0) = false := by simp [hn0]
              clear hb hn0
              go_wp2_with fail
              go_ret
              exact ⟨by rw [HDF.out]; rfl, HB2.out.trans ((HBV.out.alloc HBV.out.size _).mono HB2.out.size)⟩
        · obtain rfl : k = x.n := by omega
          go_wp2_with fail
          go_ret
          exact ⟨by rw [show donL x = true from by unfold donL; rw [HV.out, decide_eq_true HC.out, allB_of HAL.out]; rfl]; rfl, HB2.out.trans (HBV.out.mono HB2.out.size)⟩
    · have hc1 : ((cntA x.T (2 * x.n) x.m : Int) != (x.m : Int)) = true := by simp; omega
      have HC := Lib.hid hc
      clear hc
      go_wp2_with fail
      go_ret
      exact ⟨by rw [show donL x = false from by unfold donL; rw [decide_eq_false HC.out]; simp]; rfl, HB1.out.drew⟩
  · have HV : Hid (donL x = false) := by show _ = _; unfold donL; rw [hv]; rfl
    clear hv hb1
    go_wp2_with fail
    refine wp_region_held_drew (S := (fun _ => True)) (by kernel_rfl) trivial (fun hHeld => ?_)
    refine wpAnyH_take (i := 0) (oi := ?_) (v := ?_) ?_ (by kernel_rfl) (by kernel_rfl) (by kernel_rfl) ?_ ?_ (by assumption) ?_
    rotate_left 2
    · simp only [List.getElem?_toArray, List.getElem?_cons_succ, List.getElem?_cons_zero]; rfl
    · exact fun _ _ _ h => h
    · first
        | (refine Or.inr ⟨?_, ?_⟩ <;> rfl)
        | (refine Or.inl ⟨?_, ?_⟩; · rfl
           intro w hSw; (try dsimp only at hSw); go_simp; (try with_reducible rfl); done)
    try simp only [Act.put, List.setIfInBounds_toArray, List.set_cons_zero, List.set_cons_succ]
    refine wpAnyH_take (i := 1) (oi := ?_) (v := ?_) ?_ (by kernel_rfl) (by kernel_rfl) (by kernel_rfl) ?_ ?_ (by assumption) ?_
    rotate_left 2
    · simp only [List.getElem?_toArray, List.getElem?_cons_succ, List.getElem?_cons_zero]; rfl
    · exact fun _ _ _ h => h
    · first
        | (refine Or.inr ⟨?_, ?_⟩ <;> rfl)
        | (refine Or.inl ⟨?_, ?_⟩; · rfl
           intro w hSw; (try dsimp only at hSw); go_simp; (try with_reducible rfl); done)
    try simp only [Act.put, List.setIfInBounds_toArray, List.set_cons_zero, List.set_cons_succ]
    refine wpAnyH_take (i := 2) (oi := ?_) (v := ?_) ?_ (by kernel_rfl) (by kernel_rfl) (by kernel_rfl) ?_ ?_ (by assumption) ?_
    rotate_left 2
    · simp only [List.getElem?_toArray, List.getElem?_cons_succ, List.getElem?_cons_zero]; rfl
    · exact fun _ _ _ h => h
    · first
        | (refine Or.inr ⟨?_, ?_⟩ <;> rfl)
        | (refine Or.inl ⟨?_, ?_⟩; · rfl
           intro w hSw; (try dsimp only at hSw); go_simp; (try with_reducible rfl); done)
    try simp only [Act.put, List.setIfInBounds_toArray, List.set_cons_zero, List.set_cons_succ]
    refine wpAnyH_take (i := 3) (oi := ?_) (v := ?_) ?_ (by kernel_rfl) (by kernel_rfl) (by kernel_rfl) ?_ ?_ (by assumption) ?_
    rotate_left 2
    · simp only [List.getElem?_toArray, List.getElem?_cons_succ, List.getElem?_cons_zero]; rfl
    · exact fun _ _ _ h => h
    · first
        | (refine Or.inr ⟨?_, ?_⟩ <;> rfl)
        | (refine Or.inl ⟨?_, ?_⟩; · rfl
           intro w hSw; (try dsimp only at hSw); go_simp; (try with_reducible rfl); done)
    try simp only [Act.put, List.setIfInBounds_toArray, List.set_cons_zero, List.set_cons_succ]
    refine wpAnyH_take (i := 4) (oi := ?_) (v := ?_) ?_ (by kernel_rfl) (by kernel_rfl) (by kernel_rfl) ?_ ?_ (by assumption) ?_
    rotate_left 2
    · simp only [List.getElem?_toArray, List.getElem?_cons_succ, List.getElem?_cons_zero]; rfl
    · exact fun _ _ _ h => h
    · first
        | (refine Or.inr ⟨?_, ?_⟩ <;> rfl)
        | (refine Or.inl ⟨?_, ?_⟩; · rfl
           intro w hSw; (try dsimp only at hSw); go_simp; (try with_reducible rfl); done)
    try simp only [Act.put, List.setIfInBounds_toArray, List.set_cons_zero, List.set_cons_succ]
    refine wpAnyH_take (i := 5) (oi := ?_) (v := ?_) ?_ (by kernel_rfl) (by kernel_rfl) (by kernel_rfl) ?_ ?_ (by assumption) ?_
    rotate_left 2
    · simp only [List.getElem?_toArray, List.getElem?_cons_succ, List.getElem?_cons_zero]; rfl
    · exact fun _ _ _ h => h
    · first
        | (refine Or.inr ⟨?_, ?_⟩ <;> rfl)
        | (refine Or.inl ⟨?_, ?_⟩; · rfl
           intro w hSw; (try dsimp only at hSw); go_simp; (try with_reducible rfl); done)
    try simp only [Act.put, List.setIfInBounds_toArray, List.set_cons_zero, List.set_cons_succ]
    refine wpAnyH_take (i := 6) (oi := ?_) (v := ?_) ?_ (by kernel_rfl) (by kernel_rfl) (by kernel_rfl) ?_ ?_ (by assumption) ?_
    rotate_left 2
    · simp only [List.getElem?_toArray, List.getElem?_cons_succ, List.getElem?_cons_zero]; rfl
    · exact fun _ _ _ h => h
    · first
        | (refine Or.inr ⟨?_, ?_⟩ <;> rfl)
        | (refine Or.inl ⟨?_, ?_⟩; · rfl
           intro w hSw; (try dsimp only at hSw); go_simp; (try with_reducible rfl); done)
    try simp only [Act.put, List.setIfInBounds_toArray, List.set_cons_zero, List.set_cons_succ]
    refine wpAnyH_take (i := 7) (oi := ?_) (v := ?_) ?_ (by kernel_rfl) (by kernel_rfl) (by kernel_rfl) ?_ ?_ (by assumption) ?_
    rotate_left 2
    · simp only [List.getElem?_toArray, List.getElem?_cons_succ, List.getElem?_cons_zero]; rfl
    · exact fun _ _ _ h => h
    · first
        | (refine Or.inr ⟨?_, ?_⟩ <;> rfl)
        | (refine Or.inl ⟨?_, ?_⟩; · rfl
           intro w hSw; (try dsimp only at hSw); go_simp; (try with_reducible rfl); done)
    try simp only [Act.put, List.setIfInBounds_toArray, List.set_cons_zero, List.set_cons_succ]
    refine wpAnyH_take (i := 8) (oi := ?_) (v := ?_) ?_ (by kernel_rfl) (by kernel_rfl) (by kernel_rfl) ?_ ?_ (by assumption) ?_
    rotate_left 2
    · simp only [List.getElem?_toArray, List.getElem?_cons_succ, List.getElem?_cons_zero]; rfl
    · exact fun _ _ _ h => h
    · first
        | (refine Or.inr ⟨?_, ?_⟩ <;> rfl)
        | (refine Or.inl ⟨?_, ?_⟩; · rfl
           intro w hSw; (try dsimp only at hSw); go_simp; (try with_reducible rfl); done)
    try simp only [Act.put, List.setIfInBounds_toArray, List.set_cons_zero, List.set_cons_succ]
    refine wpAnyH_take (i := 9) (oi := ?_) (v := ?_) ?_ (by kernel_rfl) (by kernel_rfl) (by kernel_rfl) ?_ ?_ (by assumption) ?_
    rotate_left 2
    · simp only [List.getElem?_toArray, List.getElem?_cons_succ, List.getElem?_cons_zero]; rfl
    · exact fun _ _ _ h => h
    · first
        | (refine Or.inr ⟨?_, ?_⟩ <;> rfl)
        | (refine Or.inl ⟨?_, ?_⟩; · rfl
           intro w hSw; (try dsimp only at hSw); go_simp; (try with_reducible rfl); done)
    try simp only [Act.put, List.setIfInBounds_toArray, List.set_cons_zero, List.set_cons_succ]
    refine wpAnyH_take (i := 10) (oi := ?_) (v := ?_) ?_ (by kernel_rfl) (by kernel_rfl) (by kernel_rfl) ?_ ?_ (by assumption) ?_
    rotate_left 2
    · simp only [List.getElem?_toArray, List.getElem?_cons_succ, List.getElem?_cons_zero]; rfl
    · exact fun _ _ _ h => h
    · first
        | (refine Or.inr ⟨?_, ?_⟩ <;> rfl)
        | (refine Or.inl ⟨?_, ?_⟩; · rfl
           intro w hSw; (try dsimp only at hSw); go_simp; (try with_reducible rfl); done)
    try simp only [Act.put, List.setIfInBounds_toArray, List.set_cons_zero, List.set_cons_succ]
    refine wpAnyH_take (i := 11) (oi := ?_) (v := ?_) ?_ (by kernel_rfl) (by kernel_rfl) (by kernel_rfl) ?_ ?_ (by assumption) ?_
    rotate_left 2
    · simp only [List.getElem?_toArray, List.getElem?_cons_succ, List.getElem?_cons_zero]; rfl
    · exact fun _ _ _ h => h
    · first
        | (refine Or.inr ⟨?_, ?_⟩ <;> rfl)
        | (refine Or.inl ⟨?_, ?_⟩; · rfl
           intro w hSw; (try dsimp only at hSw); go_simp; (try with_reducible rfl); done)
    try simp only [Act.put, List.setIfInBounds_toArray, List.set_cons_zero, List.set_cons_succ]
    refine wpAnyH_take (i := 12) (oi := ?_) (v := ?_) ?_ (by kernel_rfl) (by kernel_rfl) (by kernel_rfl) ?_ ?_ (by assumption) ?_
    rotate_left 2
    · simp only [List.getElem?_toArray, List.getElem?_cons_succ, List.getElem?_cons_zero]; rfl
    · exact fun _ _ _ h => h
    · first
        | (refine Or.inr ⟨?_, ?_⟩ <;> rfl)
        | (refine Or.inl ⟨?_, ?_⟩; · rfl
           intro w hSw; (try dsimp only at hSw); go_simp; (try with_reducible rfl); done)
    try simp only [Act.put, List.setIfInBounds_toArray, List.set_cons_zero, List.set_cons_succ]
    refine wpAnyH_take (i := 13) (oi := ?_) (v := ?_) ?_ (by kernel_rfl) (by kernel_rfl) (by kernel_rfl) ?_ ?_ (by assumption) ?_
    rotate_left 2
    · simp only [List.getElem?_toArray, List.getElem?_cons_succ, List.getElem?_cons_zero]; rfl
    · exact fun _ _ _ h => h
    · first
        | (refine Or.inr ⟨?_, ?_⟩ <;> rfl)
        | (refine Or.inl ⟨?_, ?_⟩; · rfl
           intro w hSw; (try dsimp only at hSw); go_simp; (try with_reducible rfl); done)
    try simp only [Act.put, List.setIfInBounds_toArray, List.set_cons_zero, List.set_cons_succ]
    refine wpAnyH_take (i := 14) (oi := ?_) (v := ?_) ?_ (by kernel_rfl) (by kernel_rfl) (by kernel_rfl) ?_ ?_ (by assumption) ?_
    rotate_left 2
    · simp only [List.getElem?_toArray, List.getElem?_cons_succ, List.getElem?_cons_zero]; rfl
    · exact fun _ _ _ h => h
    · first
        | (refine Or.inr ⟨?_, ?_⟩ <;> rfl)
        | (refine Or.inl ⟨?_, ?_⟩; · rfl
           intro w hSw; (try dsimp only at hSw); go_simp; (try with_reducible rfl); done)
    try simp only [Act.put, List.setIfInBounds_toArray, List.set_cons_zero, List.set_cons_succ]
    refine wpAnyH_take (i := 15) (oi := ?_) (v := ?_) ?_ (by kernel_rfl) (by kernel_rfl) (by kernel_rfl) ?_ ?_ (by assumption) ?_
    rotate_left 2
    · simp only [List.getElem?_toArray, List.getElem?_cons_succ, List.getElem?_cons_zero]; rfl
    · exact fun _ _ _ h => h
    · first
        | (refine Or.inr ⟨?_, ?_⟩ <;> rfl)
        | (refine Or.inl ⟨?_, ?_⟩; · rfl
           intro w hSw; (try dsimp only at hSw); go_simp; (try with_reducible rfl); done)
    try simp only [Act.put, List.setIfInBounds_toArray, List.set_cons_zero, List.set_cons_succ]
    refine wpAnyH_take (i := 16) (oi := ?_) (v := ?_) ?_ (by kernel_rfl) (by kernel_rfl) (by kernel_rfl) ?_ ?_ (by assumption) ?_
    rotate_left 2
    · simp only [List.getElem?_toArray, List.getElem?_cons_succ, List.getElem?_cons_zero]; rfl
    · exact fun _ _ _ h => h
    · first
        | (refine Or.inr ⟨?_, ?_⟩ <;> rfl)
        | (refine Or.inl ⟨?_, ?_⟩; · rfl
           intro w hSw; (try dsimp only at hSw); go_simp; (try with_reducible rfl); done)
    try simp only [Act.put, List.setIfInBounds_toArray, List.set_cons_zero, List.set_cons_succ]
    refine wpAnyH_take (i := 17) (oi := ?_) (v := ?_) ?_ (by kernel_rfl) (by kernel_rfl) (by kernel_rfl) ?_ ?_ (by assumption) ?_
    rotate_left 2
    · simp only [List.getElem?_toArray, List.getElem?_cons_succ, List.getElem?_cons_zero]; rfl
    · exact fun _ _ _ h => h
    · first
        | (refine Or.inr ⟨?_, ?_⟩ <;> rfl)
        | (refine Or.inl ⟨?_, ?_⟩; · rfl
           intro w hSw; (try dsimp only at hSw); go_simp; (try with_reducible rfl); done)
    try simp only [Act.put, List.setIfInBounds_toArray, List.set_cons_zero, List.set_cons_succ]
    refine wpAnyH_done (by kernel_rfl) ?_ _
    go_wp2_with fail
    go_ret
    exact ⟨by rw [HV.out]; rfl, HB1.out.drew⟩
end Go.Proofs.Ytbachpfgakjncaa
namespace Go.Proofs.Ytbachpfgakjncaa
open Go.RowKit

set_option linter.unusedSimpArgs false in
set_option maxHeartbeats 2000000 in
theorem specLineStep_any (bb bo cb tb tu ct : Nat) (x : Ln) (s : Int) (l : ByteArray) (w : World) (hn : x.n ≤ 1000000000000) (hm : x.m ≤ 1000000000000) (hbk : BkC w bb bo x.n x.N x.I x.O) (hic : IC w tb tu x.m x.T) :
    Calls Try.prog 79 #[.agg #[.slice (some ⟨bb, bo, none⟩) x.n cb, .slice (some ⟨tb, tu, none⟩) x.m ct], .agg #[.int .i64 s, .string l]] w (LrR (stO x s l) w) := by
  have HKB : Hid (∀ w', Below w.heap.size w w' → BkC w' bb bo x.n x.N x.I x.O) := fun w' hb => hbk.keep hb
  have HKT : Hid (∀ w', Below w.heap.size w w' → IC w' tb tu x.m x.T) := fun w' hb => hic.keep hb
  have HM0 : Hid (StM w (((w.alloc (.cells #[.slice (some ⟨bb, bo, none⟩) x.n cb, .slice (some ⟨tb, tu, none⟩) x.m ct] 26)).alloc (.cells #[.int .i64 s, .string l] 34)).alloc (.cells #[.slice none 0 0, .slice none 0 0] 26)) (.slice (some ⟨bb, bo, none⟩) x.n cb) (.slice (some ⟨tb, tu, none⟩) x.m ct) s l) :=
    ⟨((Bx.new _ _ _).alloc _).alloc _, (Bx.newAt (by simp)).alloc _, Bx.newAt (by simp), ((below_all _ _).alloc (by simp) _).alloc (by simp; omega) _⟩
  clear hbk hic
  go_enter Try.func79, Try.ntmps79
  go_wp2_with fail
  refine (specLineValid_any bb bo cb tb tu ct x _ hn hm (HKB.out _ HM0.out.bl) (HKT.out _ HM0.out.bl)).mono ?_
  rintro e w1 ⟨rfl, hb1⟩
  have HM1 := Lib.hid (HM0.out.below hb1 (by simp))
  clear hb1 HM0
  have hac := HM1.out.arg.cell
  have hmc := HM1.out.mb.cell
  have hrc := HM1.out.res.cell
  have hrf := HM1.out.res.free
  cases hv : vldL x
  · have HV : Hid (stO x s l = none) := by show _ = _; unfold stO; rw [hv]; rfl
    clear hv
    go_wp2_with fail
    exact bodyPost_ret (v := .tuple #[nilLn, .bool false]) (by simp [results, Try.results79, go_sem, hrc, nilLn]) rfl ⟨(HM1.out.bl.setCell (by dsimp only; omega) _).setCell (by dsimp only; omega) _, .inl ⟨HV.out, rfl⟩⟩
  have HV : Hid (stO x s l = stepO x s l) := if_pos hv
  clear hv
  have HST := Lib.hid (l4Step_any bb bo cb tb tu ct x s l w1 hn hm (HKB.out _ HM1.out.bl) (HKT.out _ HM1.out.bl))
  go_wp2_with fail
  refine HST.out.mono ?_
  rintro e w2 ⟨hb2, h2⟩
  have hz1 := HM1.out.sz
  have HM2 := Lib.hid (HM1.out.below hb2 (by omega))
  have hrf2 := HM2.out.res.free
  have hrc2 := HM2.out.res.cell
  have HB2 := Lib.hid hb2
  clear hb2 hac hmc hrc hrf
  rcases h2 with ⟨ho, rfl⟩ | ⟨y, v, ho, rfl, hl⟩
  · have HN : Hid (stO x s l = none) := by show _ = _; rw [HV.out, ho]
    clear ho
    unfold nilLn
    go_wp2_with fail
    exact bodyPost_ret (v := .tuple #[nilLn, .bool false]) (by simp [results, Try.results79, go_sem, hrc2, nilLn]) rfl ⟨(HM2.out.bl.setCell (by dsimp only; omega) _).setCell (by dsimp only; omega) _, .inl ⟨HN.out, rfl⟩⟩
  · have HN : Hid (stO x s l = some y) := by show _ = _; rw [HV.out, ho]
    have HL := Lib.hid hl
    obtain ⟨g1, c1, g2, c2, rfl, _⟩ := hl
    clear ho
    go_wp2_with fail
    exact bodyPost_ret (v := .tuple #[.agg #[.slice (some ⟨g1, 0, none⟩) y.n c1, .slice (some ⟨g2, 0, none⟩) y.m c2], .bool true]) (by simp [results, Try.results79, go_sem, hrc2]) rfl ⟨(HM2.out.bl.setCell (by dsimp only; omega) _).setCell (by dsimp only; omega) _, .inr ⟨y, _, HN.out, rfl, ((HL.out.setOther (by omega) _).setOther (by omega) _).mono (by omega)⟩⟩

theorem cntA_full {f : Nat → Int} {p : Int} : ∀ m, cntA f p m = m ↔ ∀ i, i < m → f i = p
  | 0 => ⟨fun _ i hi => by omega, fun _ => rfl⟩
  | m + 1 => by
    have ih := cntA_full (f := f) (p := p) m
    have hle := cntA_le f p m
    simp only [cntA]
    constructor
    · intro h
      by_cases e : f m = p
      · rw [if_pos e] at h
        have h2 := ih.1 (by omega)
        intro i hi
        rcases Nat.lt_or_ge i m with h3 | h3
        · exact h2 i h3
        · obtain rfl : i = m := by omega
          exact e
      · rw [if_neg e] at h
        omega
    · intro h
      rw [if_pos (h m (by omega)), ih.2 fun i hi => h i (by omega)]
/-- a train is at the end -/
def atEnd (x : Ln) (i : Nat) : Bool := decide (x.T i = 2 * (x.n : Int))
def dn4 (x : Ln) : Bool := allB x.n (nrmB x) && allB x.m (atEnd x)
theorem donL_dn4 (x : Ln) : donL x = (vldL x && dn4 x) := by
  unfold donL dn4
  have h : decide (cntA x.T (2 * x.n) x.m = x.m) = allB x.m (atEnd x) := by
    rw [Bool.eq_iff_iff, decide_eq_true_eq, cntA_full, allB_true]
    unfold atEnd
    simp only [decide_eq_true_eq]
  rw [h, Bool.and_comm (allB x.m (atEnd x))]
set_option linter.unusedSimpArgs false in
set_option maxHeartbeats 2000000 in
theorem l4Done_any (bb bo cb tb tu ct : Nat) (x : Ln) (w : World) (hn : x.n ≤ 1000000000000) (hm : x.m ≤ 1000000000000) (hbk : BkC w bb bo x.n x.N x.I x.O) (hic : IC w tb tu x.m x.T) :
    Calls Try.prog 78 #[.agg #[.slice (some ⟨bb, bo, none⟩) x.n cb, .slice (some ⟨tb, tu, none⟩) x.m ct]] w fun e w' => e = .returned (.bool (dn4 x)) ∧ Below w.heap.size w w' := by
  have HM0 : Hid (VdM w (w.alloc (.cells #[.slice (some ⟨bb, bo, none⟩) x.n cb, .slice (some ⟨tb, tu, none⟩) x.m ct] 26)) (.slice (some ⟨bb, bo, none⟩) x.n cb) (.slice (some ⟨tb, tu, none⟩) x.m ct)) := ⟨Bx.new _ _ _, below_all _ _⟩
  have HKB : Hid (∀ w', Below w.heap.size w w' → BkC w' bb bo x.n x.N x.I x.O) := fun w' hb => hbk.keep hb
  have HKT : Hid (∀ w', Below w.heap.size w w' → IC w' tb tu x.m x.T) := fun w' hb => hic.keep hb
  clear hbk hic
  go_enter Try.func78, Try.ntmps78
  go_wp2_with fail
  generalize w.alloc (.cells #[.slice (some ⟨bb, bo, none⟩) x.n cb, .slice (some ⟨tb, tu, none⟩) x.m ct] 26) = W0 at *
  go_loop [3] (fun i => ∃ k : Nat, k ≤ x.n ∧ i = .int .i64 k ∧ Hid (∀ j, j < k → nrmB x j = true)) (fun i => x.n - (intOf i).toNat)
  case atStart => exact ⟨0, Nat.zero_le _, rfl, (fun j hj => by omega)⟩
  case round =>
    obtain ⟨k, hk, rfl, HAL⟩ := hrel
    have hac := HM0.out.box.cell
    by_cases hlt : k < x.n
    · obtain ⟨d0, d1, d2⟩ := (HKB.out _ HM0.out.bl).at k hlt
      have HN : Hid (nrmB x k = (decide (x.N k = 0) && (!x.I k && !x.O k))) := rfl
      revert d0 d1 d2 HN
      generalize x.N k = xn
      generalize x.I k = xi
      generalize x.O k = xo
      intro d0 d1 d2 HN
      by_cases hb : (decide (xn = 0) && (!xi && !xo)) = true
      · simp only [Bool.and_eq_true, decide_eq_true_eq, Bool.not_eq_true'] at hb
        obtain ⟨rfl, rfl, rfl⟩ := hb
        have HNT : Hid (nrmB x k = true) := HN.out
        clear HN
        go_wp2_with fail
        go_round
        case rel => exact ⟨k + 1, by omega, by go_num, (fun j hj => by
          rcases Nat.lt_or_ge j k with h | h
          · exact HAL.out j h
          · obtain rfl : j = k := by omega
            exact HNT.out)⟩
        case measure => simp [intOf]; omega
      · have HNF : Hid (nrmB x k = false) := by
          show _ = _
          rw [HN.out]
          exact Bool.eq_false_iff.2 hb
        have HDF : Hid (dn4 x = false) := by show _ = _; unfold dn4; rw [allB_not hlt HNF.out]; rfl
        clear HN HNF
        by_cases hn0 : xn = 0
        · subst hn0
          cases xi <;> cases xo
          · exact absurd rfl hb
          all_goals
            clear hb
            go_wp2_with fail
            go_ret
            exact ⟨by rw [HDF.out]; rfl, HM0.out.bl⟩
        · have hn1 : (xn == 0) = false := by simp [hn0]
          clear hb hn0
          go_wp2_with fail
          go_ret
          exact ⟨by rw [HDF.out]; rfl, HM0.out.bl⟩
    · obtain rfl : k = x.n := by omega
      go_wp2_with fail
      clear hac
      go_loopw [4] (fun i wr => ∃ k : Nat, k ≤ x.m ∧ i = .int .i64 k ∧ Hid (∀ j, j < k → atEnd x j = true) ∧ Hid (VdM w wr (.slice (some ⟨bb, bo, none⟩) x.n cb) (.slice (some ⟨tb, tu, none⟩) x.m ct))) (fun i _ => x.m - (intOf i).toNat)
      case atStart => exact ⟨0, Nat.zero_le _, rfl, (fun j hj => by omega), HM0⟩
      case round =>
        obtain ⟨k, hk, rfl, HAE, HM⟩ := hrel
        have hac := HM.out.box.cell
        by_cases hlt : k < x.m
        · have htc := (HKT.out _ HM.out.bl).at k hlt
          have HE : Hid (atEnd x k = decide (x.T k = 2 * (x.n : Int))) := rfl
          revert htc HE
          generalize x.T k = t
          intro htc HE
          have HMd := Lib.hid (HM.out.below (Below.refl _ wr).drew rfl)
          have hwr : IntKind.i64.wrap (2 * (x.n : Int)) = 2 * (x.n : Int) := IntWalk.i64_in _ (by omega)
          go_wp2_with fail
          refine wp_region_held_drew (S := (fun w' => w'.cell? ⟨w.heap.size, 0, none⟩ = some (.slice (some ⟨bb, bo, none⟩) x.n cb) ∧ w'.cell? ⟨w.heap.size, 1, none⟩ = some (.slice (some ⟨tb, tu, none⟩) x.m ct) ∧ w'.cell? ⟨tb, tu + k, none⟩ = some (.int .i64 t))) (by kernel_rfl) ?_ (fun hHeld => ?_)
          · try dsimp only
            go_keep
          refine wpAnyH_take (i := 0) (oi := ?_) (v := ?_) ?_ (by kernel_rfl) (by kernel_rfl) (by kernel_rfl) ?_ ?_ (by assumption) ?_
          rotate_left 2
          · simp only [List.getElem?_toArray, List.getElem?_cons_succ, List.getElem?_cons_zero]; rfl
          · exact fun _ _ _ h => h
          · first
              | (refine Or.inr ⟨?_, ?_⟩ <;> rfl)
              | (refine Or.inl ⟨?_, ?_⟩; · rfl
                 intro w hSw; (try dsimp only at hSw); go_simp; (try with_reducible rfl); done)
          try simp only [Act.put, List.setIfInBounds_toArray, List.set_cons_zero, List.set_cons_succ]
          refine wpAnyH_take (i := 1) (oi := ?_) (v := ?_) ?_ (by kernel_rfl) (by kernel_rfl) (by kernel_rfl) ?_ ?_ (by assumption) ?_
          rotate_left 2
          · simp only [List.getElem?_toArray, List.getElem?_cons_succ, List.getElem?_cons_zero]; rfl
          · exact fun _ _ _ h => h
          · first
              | (refine Or.inr ⟨?_, ?_⟩ <;> rfl)
              | (refine Or.inl ⟨?_, ?_⟩; · rfl
                 intro w hSw; (try dsimp only at hSw); go_simp; (try with_reducible rfl); done)
          try simp only [Act.put, List.setIfInBounds_toArray, List.set_cons_zero, List.set_cons_succ]
          refine wpAnyH_take (i := 2) (oi := ?_) (v := ?_) ?_ (by kernel_rfl) (by kernel_rfl) (by kernel_rfl) ?_ ?_ (by assumption) ?_
          rotate_left 2
          · simp only [List.getElem?_toArray, List.getElem?_cons_succ, List.getElem?_cons_zero]; rfl
          · exact fun _ _ _ h => h
          · first
              | (refine Or.inr ⟨?_, ?_⟩ <;> rfl)
              | (refine Or.inl ⟨?_, ?_⟩; · rfl
                 intro w hSw; (try dsimp only at hSw); go_simp; (try with_reducible rfl); done)
          try simp only [Act.put, List.setIfInBounds_toArray, List.set_cons_zero, List.set_cons_succ]
          refine wpAnyH_take (i := 3) (oi := ?_) (v := ?_) ?_ (by kernel_rfl) (by kernel_rfl) (by kernel_rfl) ?_ ?_ (by assumption) ?_
          rotate_left 2
          · simp only [List.getElem?_toArray, List.getElem?_cons_succ, List.getElem?_cons_zero]; rfl
          · exact fun _ _ _ h => h
          · first
              | (refine Or.inr ⟨?_, ?_⟩ <;> rfl)
              | (refine Or.inl ⟨?_, ?_⟩; · rfl
                 intro w hSw; (try dsimp only at hSw); go_simp; (try with_reducible rfl); done)
          try simp only [Act.put, List.setIfInBounds_toArray, List.set_cons_zero, List.set_cons_succ]
          refine wpAnyH_take (i := 4) (oi := ?_) (v := ?_) ?_ (by kernel_rfl) (by kernel_rfl) (by kernel_rfl) ?_ ?_ (by assumption) ?_
          rotate_left 2
          · simp only [List.getElem?_toArray, List.getElem?_cons_succ, List.getElem?_cons_zero]; rfl
          · exact fun _ _ _ h => h
          · first
              | (refine Or.inr ⟨?_, ?_⟩ <;> rfl)
              | (refine Or.inl ⟨?_, ?_⟩; · rfl
                 intro w hSw; (try dsimp only at hSw); go_simp; (try with_reducible rfl); done)
          try simp only [Act.put, List.setIfInBounds_toArray, List.set_cons_zero, List.set_cons_succ]
          refine wpAnyH_take (i := 5) (oi := ?_) (v := ?_) ?_ (by kernel_rfl) (by kernel_rfl) (by kernel_rfl) ?_ ?_ (by assumption) ?_
          rotate_left 2
          · simp only [List.getElem?_toArray, List.getElem?_cons_succ, List.getElem?_cons_zero]; rfl
          · exact fun _ _ _ h => h
          · first
              | (refine Or.inr ⟨?_, ?_⟩ <;> rfl)
              | (refine Or.inl ⟨?_, ?_⟩; · rfl
                 intro w hSw; (try dsimp only at hSw); go_simp; (try with_reducible rfl); done)
          try simp only [Act.put, List.setIfInBounds_toArray, List.set_cons_zero, List.set_cons_succ]
          refine wpAnyH_take (i := 6) (oi := ?_) (v := ?_) ?_ (by kernel_rfl) (by kernel_rfl) (by kernel_rfl) ?_ ?_ (by assumption) ?_
          rotate_left 2
          · simp only [List.getElem?_toArray, List.getElem?_cons_succ, List.getElem?_cons_zero]; rfl
          · exact fun _ _ _ h => h
          · first
              | (refine Or.inr ⟨?_, ?_⟩ <;> rfl)
              | (refine Or.inl ⟨?_, ?_⟩; · rfl
                 intro w hSw; (try dsimp only at hSw); go_simp; (try with_reducible rfl); done)
          try simp only [Act.put, List.setIfInBounds_toArray, List.set_cons_zero, List.set_cons_succ]
          refine wpAnyH_take (i := 7) (oi := ?_) (v := ?_) ?_ (by kernel_rfl) (by kernel_rfl) (by kernel_rfl) ?_ ?_ (by assumption) ?_
          rotate_left 2
          · simp only [List.getElem?_toArray, List.getElem?_cons_succ, List.getElem?_cons_zero]; rfl
          · exact fun _ _ _ h => h
          · first
              | (refine Or.inr ⟨?_, ?_⟩ <;> rfl)
              | (refine Or.inl ⟨?_, ?_⟩; · rfl
                 intro w hSw; (try dsimp only at hSw); go_simp; (try with_reducible rfl); done)
          try simp only [Act.put, List.setIfInBounds_toArray, List.set_cons_zero, List.set_cons_succ]
          refine wpAnyH_take (i := 8) (oi := ?_) (v := ?_) ?_ (by kernel_rfl) (by kernel_rfl) (by kernel_rfl) ?_ ?_ (by assumption) ?_
          rotate_left 2
          · simp only [List.getElem?_toArray, List.getElem?_cons_succ, List.getElem?_cons_zero]; rfl
          · exact fun _ _ _ h => h
          · first
              | (refine Or.inr ⟨?_, ?_⟩ <;> rfl)
              | (refine Or.inl ⟨?_, ?_⟩; · rfl
                 intro w hSw; (try dsimp only at hSw); go_simp; (try with_reducible rfl); done)
          try simp only [Act.put, List.setIfInBounds_toArray, List.set_cons_zero, List.set_cons_succ]
          refine wpAnyH_take (i := 9) (oi := ?_) (v := ?_) ?_ (by kernel_rfl) (by kernel_rfl) (by kernel_rfl) ?_ ?_ (by assumption) ?_
          rotate_left 2
          · simp only [List.getElem?_toArray, List.getElem?_cons_succ, List.getElem?_cons_zero]; rfl
          · exact fun _ _ _ h => h
          · first
              | (refine Or.inr ⟨?_, ?_⟩ <;> rfl)
              | (refine Or.inl ⟨?_, ?_⟩; · rfl
                 intro w hSw; (try dsimp only at hSw); go_simp; (try with_reducible rfl); done)
          try simp only [Act.put, List.setIfInBounds_toArray, List.set_cons_zero, List.set_cons_succ]
          refine wpAnyH_done (by kernel_rfl) ?_ _
          by_cases ht : t = 2 * (x.n : Int)
          · have ht1 : (t != 2 * (x.n : Int)) = false := by simp [ht]
            have HET : Hid (atEnd x k = true) := by show _ = _; rw [HE.out, decide_eq_true ht]
            clear ht htc hac
            go_wp2_with fail
            go_roundw
            case rel => exact ⟨k + 1, by omega, by go_num, (fun j hj => by
              rcases Nat.lt_or_ge j k with h | h
              · exact HAE.out j h
              · obtain rfl : j = k := by omega
                exact HET.out), HMd⟩
            case measure => simp [intOf]; omega
          · have ht1 : (t != 2 * (x.n : Int)) = true := by simp [ht]
            have HDF : Hid (dn4 x = false) := by show _ = _; unfold dn4; rw [allB_not hlt (show atEnd x k = false by rw [HE.out, decide_eq_false ht])]; simp
            clear ht htc hac
            go_wp2_with fail
            go_ret
            exact ⟨by rw [HDF.out]; rfl, HMd.out.bl⟩
        · obtain rfl : k = x.m := by omega
          go_wp2_with fail
          go_ret
          exact ⟨by rw [show dn4 x = true from by unfold dn4; rw [allB_of HAL.out, allB_of HAE.out]; rfl]; rfl, HM.out.bl⟩
set_option linter.unusedSimpArgs false in
set_option maxHeartbeats 2000000 in
theorem specLineDone_any (bb bo cb tb tu ct : Nat) (x : Ln) (w : World) (hn : x.n ≤ 1000000000000) (hm : x.m ≤ 1000000000000) (hbk : BkC w bb bo x.n x.N x.I x.O) (hic : IC w tb tu x.m x.T) :
    Calls Try.prog 42 #[.agg #[.slice (some ⟨bb, bo, none⟩) x.n cb, .slice (some ⟨tb, tu, none⟩) x.m ct]] w fun e w' => e = .returned (.bool (donL x)) ∧ Below w.heap.size w w' := by
  have HM0 : Hid (VdM w (w.alloc (.cells #[.slice (some ⟨bb, bo, none⟩) x.n cb, .slice (some ⟨tb, tu, none⟩) x.m ct] 26)) (.slice (some ⟨bb, bo, none⟩) x.n cb) (.slice (some ⟨tb, tu, none⟩) x.m ct)) := ⟨Bx.new _ _ _, below_all _ _⟩
  have HKB : Hid (∀ w', Below w.heap.size w w' → BkC w' bb bo x.n x.N x.I x.O) := fun w' hb => hbk.keep hb
  have HKT : Hid (∀ w', Below w.heap.size w w' → IC w' tb tu x.m x.T) := fun w' hb => hic.keep hb
  clear hbk hic
  have HDN := Lib.hid (donL_dn4 x)
  go_enter Try.func42, Try.ntmps42
  have hac := HM0.out.box.cell
  go_wp2_with fail
  refine (specLineValid_any bb bo cb tb tu ct x _ hn hm (HKB.out _ HM0.out.bl) (HKT.out _ HM0.out.bl)).mono ?_
  rintro e w1 ⟨rfl, hb1⟩
  have HM1 := Lib.hid (HM0.out.below hb1 rfl)
  clear hb1 hac
  have hac := HM1.out.box.cell
  cases hv : vldL x
  · have HV : Hid (donL x = false) := by show _ = _; rw [HDN.out, hv]; rfl
    clear hv
    go_wp2_with fail
    go_ret
    exact ⟨by rw [HV.out]; rfl, HM1.out.bl⟩
  · have HV : Hid (donL x = dn4 x) := by show _ = _; rw [HDN.out, hv]; rfl
    have HLD := Lib.hid (l4Done_any bb bo cb tb tu ct x w1 hn hm (HKB.out _ HM1.out.bl) (HKT.out _ HM1.out.bl))
    clear hv
    go_wp2_with fail
    refine HLD.out.mono ?_
    rintro e w2 ⟨rfl, hb2⟩
    have HM2 := Lib.hid (HM1.out.below hb2 rfl)
    clear hb2
    go_wp2_with fail
    go_ret
    exact ⟨by rw [HV.out]; rfl, HM2.out.bl⟩
set_option linter.unusedSimpArgs false in
set_option maxHeartbeats 2000000 in
theorem specLineLeftO_any (bb bo cb tb tu ct : Nat) (x : Ln) (w : World) (hn : x.n ≤ 1000000000000) (hm : x.m ≤ 1000000000000) (hbk : BkC w bb bo x.n x.N x.I x.O) (hic : IC w tb tu x.m x.T) :
    Calls Try.prog 33 #[.agg #[.slice (some ⟨bb, bo, none⟩) x.n cb, .slice (some ⟨tb, tu, none⟩) x.m ct]] w fun e w' => e = .returned (.int .i64 (lefO x)) ∧ Below w.heap.size w w' := by
  cases hv : vldL x
  · have HM0 : Hid (VdM w (w.alloc (.cells #[.slice (some ⟨bb, bo, none⟩) x.n cb, .slice (some ⟨tb, tu, none⟩) x.m ct] 26)) (.slice (some ⟨bb, bo, none⟩) x.n cb) (.slice (some ⟨tb, tu, none⟩) x.m ct)) := ⟨Bx.new _ _ _, below_all _ _⟩
    have HLV : Hid (Calls Try.prog 49 #[.agg #[.slice (some ⟨bb, bo, none⟩) x.n cb, .slice (some ⟨tb, tu, none⟩) x.m ct]] (w.alloc (.cells #[.slice (some ⟨bb, bo, none⟩) x.n cb, .slice (some ⟨tb, tu, none⟩) x.m ct] 26)) fun e w' => e = .returned (.bool false) ∧ Below (w.alloc (.cells #[.slice (some ⟨bb, bo, none⟩) x.n cb, .slice (some ⟨tb, tu, none⟩) x.m ct] 26)).heap.size (w.alloc (.cells #[.slice (some ⟨bb, bo, none⟩) x.n cb, .slice (some ⟨tb, tu, none⟩) x.m ct] 26)) w') := by
      have h := specLineValid_any bb bo cb tb tu ct x _ hn hm (hbk.keep HM0.out.bl) (hic.keep HM0.out.bl)
      rw [hv] at h
      exact h
    have HV : Hid (lefO x = -1) := by show _ = _; unfold lefO; rw [hv]; rfl
    clear hbk hic hv
    go_enter Try.func33, Try.ntmps33
    have hac := HM0.out.box.cell
    go_wp2_with fail
    refine HLV.out.mono ?_
    rintro e w1 ⟨rfl, hb1⟩
    have HM1 := Lib.hid (HM0.out.below hb1 rfl)
    clear hb1
    go_wp2_with fail
    go_ret
    exact ⟨by rw [HV.out]; rfl, HM1.out.bl⟩
  · rw [show lefO x = lefS x x.n from if_pos hv]
    exact specLineLeft_any bb bo cb tb tu ct x w hv hbk hic
end Go.Proofs.Ytbachpfgakjncaa
namespace Go.Proofs.Ytbachpfgakjncaa
open Go.RowKit

/-- a new line -/
def newL (n m : Nat) : Ln := { n := n, N := fun _ => 0, I := fun _ => false, O := fun _ => false, m := m, T := fun _ => 0 }
def nwO (n t : Int) : Option Ln := if inB n 1 5 && inB t 0 5 then some (newL n.toNat t.toNat) else none
theorem nwO_yes {n t : Nat} (h1 : inB n 1 5 = true) (h2 : inB t 0 5 = true) : nwO n t = some (newL n t) := by
  unfold nwO
  rw [h1, h2]
  rfl
theorem nwO_n {n t : Int} (h1 : inB n 1 5 = false) : nwO n t = none := by
  unfold nwO
  rw [h1]
  rfl
theorem nwO_t {n t : Int} (h1 : inB t 0 5 = false) : nwO n t = none := by
  unfold nwO
  rw [h1, Bool.and_false]
  rfl
/-- behind the two rows of a new line -/
theorem nw_done {w wr : World} {g1 g2 n m : Nat} (h1 : Own wr g1 n n 3 75 (bkF (newL n m).N (newL n m).I (newL n m).O)) (h2 : Own wr g2 m m 1 3 (fun _ => .int .i64 0)) (hg : g1 ≠ g2) (h3 : w.heap.size + 1 ≤ g1) (h4 : w.heap.size + 1 ≤ g2) (hb : Below w.heap.size w wr) (n' t' : Int) (ho : nwO n' t' = some (newL n m)) :
    LrR (nwO n' t') w (.returned (.tuple #[.agg #[.slice (some ⟨g1, 0, none⟩) n n, .slice (some ⟨g2, 0, none⟩) m m], .bool true])) wr :=
  ⟨hb, .inr ⟨newL n m, _, ho, rfl, g1, n, g2, m, rfl, h1, h2, hg, by omega, by omega⟩⟩
theorem nw_two {w W : World} {z : Nat} (hz : z = W.heap.size) (hB : Below w.heap.size w W) (hs : w.heap.size + 1 ≤ W.heap.size) (n m : Nat) (hn : n ≤ 5) (hm : m ≤ 5) :
    Own ((W.alloc (.cells (madeCells #[.int .i64 0, .bool false, .bool false] (n * 3)) 75)).alloc (.cells (madeCells #[.int .i64 0] m) 3)) z n n 3 75 (bkF (newL n m).N (newL n m).I (newL n m).O) ∧
    Own ((W.alloc (.cells (madeCells #[.int .i64 0, .bool false, .bool false] (n * 3)) 75)).alloc (.cells (madeCells #[.int .i64 0] m) 3)) (z + 1) m m 1 3 (fun _ => .int .i64 0) ∧
    Below w.heap.size w ((W.alloc (.cells (madeCells #[.int .i64 0, .bool false, .bool false] (n * 3)) 75)).alloc (.cells (madeCells #[.int .i64 0] m) 3)) := by
  subst hz
  refine ⟨(own_bk0 W n (by omega)).alloc _, ?_, (hB.alloc (by omega) _).alloc (by simp; omega) _⟩
  have h := own_full1 (W.alloc (.cells (madeCells #[.int .i64 0, .bool false, .bool false] (n * 3)) 75)) (.int .i64 0) m 3 (by unfold maxLen; omega)
  rw [World.size_alloc] at h
  exact h
theorem nw_two' {w W : World} {z : Nat} (hz : z = W.heap.size) (hB : Below w.heap.size w W) (hs : w.heap.size + 1 ≤ W.heap.size) (n m : Nat) (hn : n ≤ 5) (hm : m ≤ 5) :
    Own ((W.alloc (.cells (madeCells #[.int .i64 0] m) 3)).alloc (.cells (madeCells #[.int .i64 0, .bool false, .bool false] (n * 3)) 75)) (z + 1) n n 3 75 (bkF (newL n m).N (newL n m).I (newL n m).O) ∧
    Own ((W.alloc (.cells (madeCells #[.int .i64 0] m) 3)).alloc (.cells (madeCells #[.int .i64 0, .bool false, .bool false] (n * 3)) 75)) z m m 1 3 (fun _ => .int .i64 0) ∧
    Below w.heap.size w ((W.alloc (.cells (madeCells #[.int .i64 0] m) 3)).alloc (.cells (madeCells #[.int .i64 0, .bool false, .bool false] (n * 3)) 75)) := by
  subst hz
  refine ⟨?_, (own_full1 W (.int .i64 0) m 3 (by unfold maxLen; omega)).alloc _, (hB.alloc (by omega) _).alloc (by simp; omega) _⟩
  have h := own_bk0 (W.alloc (.cells (madeCells #[.int .i64 0] m) 3)) n (by omega)
  rw [World.size_alloc] at h
  exact h
set_option linter.unusedSimpArgs false in
set_option maxHeartbeats 2000000 in
theorem lineNew_any (n t : Int) (w : World) (hn : -9223372036854775808 ≤ n ∧ n ≤ 9223372036854775807) :
    Calls Try.prog 26 #[.int .i64 n, .int .i64 t] w (LrR (nwO n t) w) := by
  have HBB : Hid (∀ a, Below w.heap.size w (w.alloc a)) := fun a => below_all _ _
  have hbx : ∀ o, (w.alloc (.cells #[.slice none 0 0, .slice none 0 0] 26)).cell? ⟨w.heap.size, o, none⟩ = (#[.slice none 0 0, .slice none 0 0] : Array Value)[o]? := box_new _ _ _
  have HSV := fun W => Lib.hid (sectionsValid_any n W hn)
  cases h1 : inB n 1 5
  · have HV := Lib.hid (nwO_n (t := t) h1)
    have H1 := Lib.hid h1
    clear h1 hn
    go_enter Try.func26, Try.ntmps26
    go_wp2_with fail
    refine (HSV _).out.mono ?_
    rintro e w' ⟨rfl, rfl⟩
    rw [H1.out]
    go_wp2_with fail
    exact bodyPost_ret (v := .tuple #[nilLn, .bool false]) (by simp [results, Try.results26, go_sem, hbx, nilLn]) rfl ⟨HBB.out _, .inl ⟨HV.out, rfl⟩⟩
  · have h1' := inB_true.1 h1
    have H1 := Lib.hid h1
    clear h1
    by_cases h2 : t < 0
    · have HV := Lib.hid (nwO_t (n := n) (inB_false.2 (by omega) : inB t 0 5 = false))
      clear hn
      go_enter Try.func26, Try.ntmps26
      go_wp2_with fail
      refine (HSV _).out.mono ?_
      rintro e w' ⟨rfl, rfl⟩
      rw [H1.out]
      go_wp2_with fail
      exact bodyPost_ret (v := .tuple #[nilLn, .bool false]) (by simp [results, Try.results26, go_sem, hbx, nilLn]) rfl ⟨HBB.out _, .inl ⟨HV.out, rfl⟩⟩
    by_cases h3 : 5 < t
    · have HV := Lib.hid (nwO_t (n := n) (inB_false.2 (by omega) : inB t 0 5 = false))
      clear hn
      go_enter Try.func26, Try.ntmps26
      go_wp2_with fail
      refine (HSV _).out.mono ?_
      rintro e w' ⟨rfl, rfl⟩
      rw [H1.out]
      go_wp2_with fail
      exact bodyPost_ret (v := .tuple #[nilLn, .bool false]) (by simp [results, Try.results26, go_sem, hbx, nilLn]) rfl ⟨HBB.out _, .inl ⟨HV.out, rfl⟩⟩
    obtain ⟨n, rfl⟩ := Int.eq_ofNat_of_zero_le (show 0 ≤ n by omega)
    obtain ⟨t, rfl⟩ := Int.eq_ofNat_of_zero_le (show 0 ≤ t by omega)
    have HV := Lib.hid (nwO_yes (n := n) (t := t) (inB_true.2 (by omega)) (inB_true.2 (by omega)))
    have hmkb := fun w => run_mk elBk n n (Nat.le_refl _) (by omega) (by omega) w
    have hmki := fun w => run_mk elInt t t (Nat.le_refl _) (by omega) (by omega) w
    simp only [Nat.mul_one] at hmki
    clear hn
    go_enter Try.func26, Try.ntmps26
    go_wp2_with fail
    refine (HSV _).out.mono ?_
    rintro e w' ⟨rfl, rfl⟩
    rw [H1.out]
    obtain ⟨W0, hW0⟩ : ∃ W0, W0 = (w.alloc (.cells #[.slice none 0 0, .slice none 0 0] 26)).drew := ⟨_, rfl⟩
    have hr0 : ∀ o, W0.cell? ⟨w.heap.size, o, none⟩ = (#[.slice none 0 0, .slice none 0 0] : Array Value)[o]? := by rw [hW0]; exact box_new _ _ _
    have hrf : ∀ o, W0.frozen? ⟨w.heap.size, o, none⟩ = false := by rw [hW0]; exact (Bx.new w 26 #[.slice none 0 0, .slice none 0 0]).free
    have hrs : w.heap.size < W0.heap.size := by rw [hW0]; simp
    have HB0 : Hid (Below w.heap.size w W0) := by rw [hW0]; exact (below_all w (.cells #[.slice none 0 0, .slice none 0 0] 26)).drew
    go_wp2_with fail
    refine wp_region_held_drew (S := (fun _ => True)) (by kernel_rfl) trivial (fun hHeld => ?_)
    rw [← hW0]
    clear hW0
    refine wpAnyH_take (i := 0) (oi := ?_) (v := ?_) ?_ (by kernel_rfl) (by kernel_rfl) (by kernel_rfl) ?_ ?_ (by assumption) ?_
    rotate_left 2
    · simp only [List.getElem?_toArray, List.getElem?_cons_succ, List.getElem?_cons_zero]; rfl
    · exact fun _ _ _ h => h
    · first
        | (refine Or.inr ⟨?_, ?_⟩ <;> rfl)
        | (refine Or.inl ⟨?_, ?_⟩; · rfl
           intro w hSw; (try dsimp only at hSw); go_simp; (try with_reducible rfl); done)
    try simp only [Act.put, List.setIfInBounds_toArray, List.set_cons_zero, List.set_cons_succ]
    refine wpAnyH_take (i := 2) (oi := ?_) (v := ?_) ?_ (by kernel_rfl) (by kernel_rfl) (by kernel_rfl) ?_ ?_ (by assumption) ?_
    rotate_left 2
    · simp only [List.getElem?_toArray, List.getElem?_cons_succ, List.getElem?_cons_zero]; rfl
    · exact fun _ _ _ h => h
    · first
        | (refine Or.inr ⟨?_, ?_⟩ <;> rfl)
        | (refine Or.inl ⟨?_, ?_⟩; · rfl
           intro w hSw; (try dsimp only at hSw); go_simp; (try with_reducible rfl); done)
    try simp only [Act.put, List.setIfInBounds_toArray, List.set_cons_zero, List.set_cons_succ]
    refine wpAnyH_ready (rs := [1, 3]) (by kernel_rfl) (by simp) ?_
    refine AllReadyH.cons (o := ?_) ?_ (fun K hK => ?_) ?_
    rotate_left 1
    · simp only [List.getElem?_toArray, List.getElem?_cons_succ, List.getElem?_cons_zero]; rfl
    · go_simp
      refine hK.out _ _ ?_ (fun hHeld => ?_)
      · exact trivial
      clear hK K
      try simp only [Act.put, List.setIfInBounds_toArray, List.set_cons_zero, List.set_cons_succ]
      refine wpAnyH_ready (rs := [3]) (by kernel_rfl) (by simp) ?_
      refine AllReadyH.cons (o := ?_) ?_ (fun K hK => ?_) AllReadyH.nil
      rotate_left 1
      · simp only [List.getElem?_toArray, List.getElem?_cons_succ, List.getElem?_cons_zero]; rfl
      go_simp
      refine hK.out _ _ ?_ (fun hHeld => ?_)
      · exact trivial
      clear hK K
      try simp only [Act.put, List.setIfInBounds_toArray, List.set_cons_zero, List.set_cons_succ]
      refine wpAnyH_take (i := 4) (oi := ?_) (v := ?_) ?_ (by kernel_rfl) (by kernel_rfl) (by kernel_rfl) ?_ ?_ (by assumption) ?_
      rotate_left 2
      · simp only [List.getElem?_toArray, List.getElem?_cons_succ, List.getElem?_cons_zero]; rfl
      · exact fun _ _ _ h => h
      · first
          | (refine Or.inr ⟨?_, ?_⟩ <;> rfl)
          | (refine Or.inl ⟨?_, ?_⟩; · rfl
             intro w hSw; (try dsimp only at hSw); go_simp; (try with_reducible rfl); done)
      try simp only [Act.put, List.setIfInBounds_toArray, List.set_cons_zero, List.set_cons_succ]
      refine wpAnyH_ready (rs := [5]) (by kernel_rfl) (by simp) ?_
      refine AllReadyH.cons (o := ?_) ?_ (fun K hK => ?_) AllReadyH.nil
      rotate_left 1
      · simp only [List.getElem?_toArray, List.getElem?_cons_succ, List.getElem?_cons_zero]; rfl
      go_simp
      refine hK.out _ _ ?_ (fun hHeld => ?_)
      · exact trivial
      clear hK K
      try simp only [Act.put, List.setIfInBounds_toArray, List.set_cons_zero, List.set_cons_succ]
      refine wpAnyH_take (i := 6) (oi := ?_) (v := ?_) ?_ (by kernel_rfl) (by kernel_rfl) (by kernel_rfl) ?_ ?_ (by assumption) ?_
      rotate_left 2
      · simp only [List.getElem?_toArray, List.getElem?_cons_succ, List.getElem?_cons_zero]; rfl
      · exact fun _ _ _ h => h
      · first
          | (refine Or.inr ⟨?_, ?_⟩ <;> rfl)
          | (refine Or.inl ⟨?_, ?_⟩; · rfl
             intro w hSw; (try dsimp only at hSw); go_simp; (try with_reducible rfl); done)
      try simp only [Act.put, List.setIfInBounds_toArray, List.set_cons_zero, List.set_cons_succ]
      refine wpAnyH_done (by kernel_rfl) ?_ _
      go_wp2_with fail
      refine bodyPost_ret (v := .tuple #[.agg #[.slice (some ⟨W0.heap.size, 0, none⟩) n n, .slice (some ⟨W0.heap.size + 1, 0, none⟩) t t], .bool true]) (by simp [results, Try.results26, Try.results27, go_sem, hr0, hrs]) rfl ?_
      obtain ⟨h1, h2, h3⟩ := nw_two (w := w) (W := (W0.setCell ⟨w.heap.size, 0, none⟩ (.slice (some ⟨W0.heap.size, 0, none⟩) n n)).setCell ⟨w.heap.size, 1, none⟩ (.slice (some ⟨W0.heap.size + 1, 0, none⟩) t t)) (z := W0.heap.size) (by simp) ((HB0.out.setCell (Nat.le_refl _) _).setCell (Nat.le_refl _) _) (by simp; omega) n t (by omega) (by omega)
      exact nw_done h1 h2 (by omega) (by omega) (by omega) h3 _ _ HV.out
    · refine AllReadyH.cons (o := ?_) ?_ (fun K hK => ?_) ?_
      rotate_left 1
      · simp only [List.getElem?_toArray, List.getElem?_cons_succ, List.getElem?_cons_zero]; rfl
      · go_simp
        refine hK.out _ _ ?_ (fun hHeld => ?_)
        · exact trivial
        clear hK K
        try simp only [Act.put, List.setIfInBounds_toArray, List.set_cons_zero, List.set_cons_succ]
        refine wpAnyH_ready (rs := [1]) (by kernel_rfl) (by simp) ?_
        refine AllReadyH.cons (o := ?_) ?_ (fun K hK => ?_) AllReadyH.nil
        rotate_left 1
        · simp only [List.getElem?_toArray, List.getElem?_cons_succ, List.getElem?_cons_zero]; rfl
        go_simp
        refine hK.out _ _ ?_ (fun hHeld => ?_)
        · exact trivial
        clear hK K
        try simp only [Act.put, List.setIfInBounds_toArray, List.set_cons_zero, List.set_cons_succ]
        refine wpAnyH_take (i := 4) (oi := ?_) (v := ?_) ?_ (by kernel_rfl) (by kernel_rfl) (by kernel_rfl) ?_ ?_ (by assumption) ?_
        rotate_left 2
        · simp only [List.getElem?_toArray, List.getElem?_cons_succ, List.getElem?_cons_zero]; rfl
        · exact fun _ _ _ h => h
        · first
            | (refine Or.inr ⟨?_, ?_⟩ <;> rfl)
            | (refine Or.inl ⟨?_, ?_⟩; · rfl
               intro w hSw; (try dsimp only at hSw); go_simp; (try with_reducible rfl); done)
        try simp only [Act.put, List.setIfInBounds_toArray, List.set_cons_zero, List.set_cons_succ]
        refine wpAnyH_ready (rs := [5]) (by kernel_rfl) (by simp) ?_
        refine AllReadyH.cons (o := ?_) ?_ (fun K hK => ?_) AllReadyH.nil
        rotate_left 1
        · simp only [List.getElem?_toArray, List.getElem?_cons_succ, List.getElem?_cons_zero]; rfl
        go_simp
        refine hK.out _ _ ?_ (fun hHeld => ?_)
        · exact trivial
        clear hK K
        try simp only [Act.put, List.setIfInBounds_toArray, List.set_cons_zero, List.set_cons_succ]
        refine wpAnyH_take (i := 6) (oi := ?_) (v := ?_) ?_ (by kernel_rfl) (by kernel_rfl) (by kernel_rfl) ?_ ?_ (by assumption) ?_
        rotate_left 2
        · simp only [List.getElem?_toArray, List.getElem?_cons_succ, List.getElem?_cons_zero]; rfl
        · exact fun _ _ _ h => h
        · first
            | (refine Or.inr ⟨?_, ?_⟩ <;> rfl)
            | (refine Or.inl ⟨?_, ?_⟩; · rfl
               intro w hSw; (try dsimp only at hSw); go_simp; (try with_reducible rfl); done)
        try simp only [Act.put, List.setIfInBounds_toArray, List.set_cons_zero, List.set_cons_succ]
        refine wpAnyH_done (by kernel_rfl) ?_ _
        go_wp2_with fail
        refine bodyPost_ret (v := .tuple #[.agg #[.slice (some ⟨W0.heap.size + 1, 0, none⟩) n n, .slice (some ⟨W0.heap.size, 0, none⟩) t t], .bool true]) (by simp [results, Try.results26, Try.results27, go_sem, hr0, hrs]) rfl ?_
        obtain ⟨h1, h2, h3⟩ := nw_two' (w := w) (W := (W0.setCell ⟨w.heap.size, 0, none⟩ (.slice (some ⟨W0.heap.size + 1, 0, none⟩) n n)).setCell ⟨w.heap.size, 1, none⟩ (.slice (some ⟨W0.heap.size, 0, none⟩) t t)) (z := W0.heap.size) (by simp) ((HB0.out.setCell (Nat.le_refl _) _).setCell (Nat.le_refl _) _) (by simp; omega) n t (by omega) (by omega)
        exact nw_done h1 h2 (by omega) (by omega) (by omega) h3 _ _ HV.out
      · exact AllReadyH.nil
set_option linter.unusedSimpArgs false in
set_option maxHeartbeats 2000000 in
theorem specLineNew_any (n t : Int) (w : World) :
    Calls Try.prog 27 #[.int .i64 n, .int .i64 t] w (LrR (nwO n t) w) := by
  have HBB : Hid (∀ a, Below w.heap.size w (w.alloc a)) := fun a => below_all _ _
  have hbx : ∀ o, (w.alloc (.cells #[.slice none 0 0, .slice none 0 0] 26)).cell? ⟨w.heap.size, o, none⟩ = (#[.slice none 0 0, .slice none 0 0] : Array Value)[o]? := box_new _ _ _
  cases h1 : inB n 1 5
  · have HV := Lib.hid (nwO_n (t := t) h1)
    have H1 := Lib.hid h1
    clear h1
    go_enter Try.func27, Try.ntmps27
    go_wp2_with fail
    refine (l6In_any _ _ _ _).mono ?_
    rintro e w' ⟨rfl, rfl⟩
    rw [H1.out]
    go_wp2_with fail
    exact bodyPost_ret (v := .tuple #[nilLn, .bool false]) (by simp [results, Try.results27, go_sem, hbx, nilLn]) rfl ⟨HBB.out _, .inl ⟨HV.out, rfl⟩⟩
  cases h2 : inB t 0 5
  · have HV := Lib.hid (nwO_t (n := n) h2)
    have H1 := Lib.hid h1
    have H2 := Lib.hid h2
    clear h1 h2
    go_enter Try.func27, Try.ntmps27
    go_wp2_with fail
    refine (l6In_any _ _ _ _).mono ?_
    rintro e w' ⟨rfl, rfl⟩
    rw [H1.out]
    go_wp2_with fail
    refine (l6In_any _ _ _ _).mono ?_
    rintro e w' ⟨rfl, rfl⟩
    rw [H2.out]
    go_wp2_with fail
    exact bodyPost_ret (v := .tuple #[nilLn, .bool false]) (by simp [results, Try.results27, go_sem, hbx, nilLn]) rfl ⟨HBB.out _, .inl ⟨HV.out, rfl⟩⟩
  have h1' := inB_true.1 h1
  have h2' := inB_true.1 h2
  obtain ⟨n, rfl⟩ := Int.eq_ofNat_of_zero_le (show 0 ≤ n by omega)
  obtain ⟨t, rfl⟩ := Int.eq_ofNat_of_zero_le (show 0 ≤ t by omega)
  have HV := Lib.hid (nwO_yes (n := n) (t := t) h1 h2)
  have H1 := Lib.hid h1
  have H2 := Lib.hid h2
  clear h1 h2
  have hmkb := fun w => run_mk elBk n n (Nat.le_refl _) (by omega) (by omega) w
  have hmki := fun w => run_mk elInt t t (Nat.le_refl _) (by omega) (by omega) w
  simp only [Nat.mul_one] at hmki
  go_enter Try.func27, Try.ntmps27
  go_wp2_with fail
  refine (l6In_any _ _ _ _).mono ?_
  rintro e w' ⟨rfl, rfl⟩
  rw [H1.out]
  go_wp2_with fail
  refine (l6In_any _ _ _ _).mono ?_
  rintro e w' ⟨rfl, rfl⟩
  rw [H2.out]
  obtain ⟨W0, hW0⟩ : ∃ W0, W0 = (w.alloc (.cells #[.slice none 0 0, .slice none 0 0] 26)).drew := ⟨_, rfl⟩
  have hr0 : ∀ o, W0.cell? ⟨w.heap.size, o, none⟩ = (#[.slice none 0 0, .slice none 0 0] : Array Value)[o]? := by rw [hW0]; exact box_new _ _ _
  have hrf : ∀ o, W0.frozen? ⟨w.heap.size, o, none⟩ = false := by rw [hW0]; exact (Bx.new w 26 #[.slice none 0 0, .slice none 0 0]).free
  have hrs : w.heap.size < W0.heap.size := by rw [hW0]; simp
  have HB0 : Hid (Below w.heap.size w W0) := by rw [hW0]; exact (below_all w (.cells #[.slice none 0 0, .slice none 0 0] 26)).drew
  go_wp2_with fail
  refine wp_region_held_drew (S := (fun _ => True)) (by kernel_rfl) trivial (fun hHeld => ?_)
  rw [← hW0]
  clear hW0
  refine wpAnyH_take (i := 0) (oi := ?_) (v := ?_) ?_ (by kernel_rfl) (by kernel_rfl) (by kernel_rfl) ?_ ?_ (by assumption) ?_
  rotate_left 2
  · simp only [List.getElem?_toArray, List.getElem?_cons_succ, List.getElem?_cons_zero]; rfl
  · exact fun _ _ _ h => h
  · first
      | (refine Or.inr ⟨?_, ?_⟩ <;> rfl)
      | (refine Or.inl ⟨?_, ?_⟩; · rfl
         intro w hSw; (try dsimp only at hSw); go_simp; (try with_reducible rfl); done)
  try simp only [Act.put, List.setIfInBounds_toArray, List.set_cons_zero, List.set_cons_succ]
  refine wpAnyH_take (i := 2) (oi := ?_) (v := ?_) ?_ (by kernel_rfl) (by kernel_rfl) (by kernel_rfl) ?_ ?_ (by assumption) ?_
  rotate_left 2
  · simp only [List.getElem?_toArray, List.getElem?_cons_succ, List.getElem?_cons_zero]; rfl
  · exact fun _ _ _ h => h
  · first
      | (refine Or.inr ⟨?_, ?_⟩ <;> rfl)
      | (refine Or.inl ⟨?_, ?_⟩; · rfl
         intro w hSw; (try dsimp only at hSw); go_simp; (try with_reducible rfl); done)
  try simp only [Act.put, List.setIfInBounds_toArray, List.set_cons_zero, List.set_cons_succ]
  refine wpAnyH_ready (rs := [1, 3]) (by kernel_rfl) (by simp) ?_
  refine AllReadyH.cons (o := ?_) ?_ (fun K hK => ?_) ?_
  rotate_left 1
  · simp only [List.getElem?_toArray, List.getElem?_cons_succ, List.getElem?_cons_zero]; rfl
  · go_simp
    refine hK.out _ _ ?_ (fun hHeld => ?_)
    · exact trivial
    clear hK K
    try simp only [Act.put, List.setIfInBounds_toArray, List.set_cons_zero, List.set_cons_succ]
    refine wpAnyH_ready (rs := [3]) (by kernel_rfl) (by simp) ?_
    refine AllReadyH.cons (o := ?_) ?_ (fun K hK => ?_) AllReadyH.nil
    rotate_left 1
    · simp only [List.getElem?_toArray, List.getElem?_cons_succ, List.getElem?_cons_zero]; rfl
    go_simp
    refine hK.out _ _ ?_ (fun hHeld => ?_)
    · exact trivial
    clear hK K
    try simp only [Act.put, List.setIfInBounds_toArray, List.set_cons_zero, List.set_cons_succ]
    refine wpAnyH_take (i := 4) (oi := ?_) (v := ?_) ?_ (by kernel_rfl) (by kernel_rfl) (by kernel_rfl) ?_ ?_ (by assumption) ?_
    rotate_left 2
    · simp only [List.getElem?_toArray, List.getElem?_cons_succ, List.getElem?_cons_zero]; rfl
    · exact fun _ _ _ h => h
    · first
        | (refine Or.inr ⟨?_, ?_⟩ <;> rfl)
        | (refine Or.inl ⟨?_, ?_⟩; · rfl
           intro w hSw; (try dsimp only at hSw); go_simp; (try with_reducible rfl); done)
    try simp only [Act.put, List.setIfInBounds_toArray, List.set_cons_zero, List.set_cons_succ]
    refine wpAnyH_ready (rs := [5]) (by kernel_rfl) (by simp) ?_
    refine AllReadyH.cons (o := ?_) ?_ (fun K hK => ?_) AllReadyH.nil
    rotate_left 1
    · simp only [List.getElem?_toArray, List.getElem?_cons_succ, List.getElem?_cons_zero]; rfl
    go_simp
    refine hK.out _ _ ?_ (fun hHeld => ?_)
    · exact trivial
    clear hK K
    try simp only [Act.put, List.setIfInBounds_toArray, List.set_cons_zero, List.set_cons_succ]
    refine wpAnyH_take (i := 6) (oi := ?_) (v := ?_) ?_ (by kernel_rfl) (by kernel_rfl) (by kernel_rfl) ?_ ?_ (by assumption) ?_
    rotate_left 2
    · simp only [List.getElem?_toArray, List.getElem?_cons_succ, List.getElem?_cons_zero]; rfl
    · exact fun _ _ _ h => h
    · first
        | (refine Or.inr ⟨?_, ?_⟩ <;> rfl)
        | (refine Or.inl ⟨?_, ?_⟩; · rfl
           intro w hSw; (try dsimp only at hSw); go_simp; (try with_reducible rfl); done)
    try simp only [Act.put, List.setIfInBounds_toArray, List.set_cons_zero, List.set_cons_succ]
    refine wpAnyH_done (by kernel_rfl) ?_ _
    go_wp2_with fail
    refine bodyPost_ret (v := .tuple #[.agg #[.slice (some ⟨W0.heap.size, 0, none⟩) n n, .slice (some ⟨W0.heap.size + 1, 0, none⟩) t t], .bool true]) (by simp [results, Try.results26, Try.results27, go_sem, hr0, hrs]) rfl ?_
    obtain ⟨h1, h2, h3⟩ := nw_two (w := w) (W := (W0.setCell ⟨w.heap.size, 0, none⟩ (.slice (some ⟨W0.heap.size, 0, none⟩) n n)).setCell ⟨w.heap.size, 1, none⟩ (.slice (some ⟨W0.heap.size + 1, 0, none⟩) t t)) (z := W0.heap.size) (by simp) ((HB0.out.setCell (Nat.le_refl _) _).setCell (Nat.le_refl _) _) (by simp; omega) n t (by omega) (by omega)
    exact nw_done h1 h2 (by omega) (by omega) (by omega) h3 _ _ HV.out
  · refine AllReadyH.cons (o := ?_) ?_ (fun K hK => ?_) ?_
    rotate_left 1
    · simp only [List.getElem?_toArray, List.getElem?_cons_succ, List.getElem?_cons_zero]; rfl
    · go_simp
      refine hK.out _ _ ?_ (fun hHeld => ?_)
      · exact trivial
      clear hK K
      try simp only [Act.put, List.setIfInBounds_toArray, List.set_cons_zero, List.set_cons_succ]
      refine wpAnyH_ready (rs := [1]) (by kernel_rfl) (by simp) ?_
      refine AllReadyH.cons (o := ?_) ?_ (fun K hK => ?_) AllReadyH.nil
      rotate_left 1
      · simp only [List.getElem?_toArray, List.getElem?_cons_succ, List.getElem?_cons_zero]; rfl
      go_simp
      refine hK.out _ _ ?_ (fun hHeld => ?_)
      · exact trivial
      clear hK K
      try simp only [Act.put, List.setIfInBounds_toArray, List.set_cons_zero, List.set_cons_succ]
      refine wpAnyH_take (i := 4) (oi := ?_) (v := ?_) ?_ (by kernel_rfl) (by kernel_rfl) (by kernel_rfl) ?_ ?_ (by assumption) ?_
      rotate_left 2
      · simp only [List.getElem?_toArray, List.getElem?_cons_succ, List.getElem?_cons_zero]; rfl
      · exact fun _ _ _ h => h
      · first
          | (refine Or.inr ⟨?_, ?_⟩ <;> rfl)
          | (refine Or.inl ⟨?_, ?_⟩; · rfl
             intro w hSw; (try dsimp only at hSw); go_simp; (try with_reducible rfl); done)
      try simp only [Act.put, List.setIfInBounds_toArray, List.set_cons_zero, List.set_cons_succ]
      refine wpAnyH_ready (rs := [5]) (by kernel_rfl) (by simp) ?_
      refine AllReadyH.cons (o := ?_) ?_ (fun K hK => ?_) AllReadyH.nil
      rotate_left 1
      · simp only [List.getElem?_toArray, List.getElem?_cons_succ, List.getElem?_cons_zero]; rfl
      go_simp
      refine hK.out _ _ ?_ (fun hHeld => ?_)
      · exact trivial
      clear hK K
      try simp only [Act.put, List.setIfInBounds_toArray, List.set_cons_zero, List.set_cons_succ]
      refine wpAnyH_take (i := 6) (oi := ?_) (v := ?_) ?_ (by kernel_rfl) (by kernel_rfl) (by kernel_rfl) ?_ ?_ (by assumption) ?_
      rotate_left 2
      · simp only [List.getElem?_toArray, List.getElem?_cons_succ, List.getElem?_cons_zero]; rfl
      · exact fun _ _ _ h => h
      · first
          | (refine Or.inr ⟨?_, ?_⟩ <;> rfl)
          | (refine Or.inl ⟨?_, ?_⟩; · rfl
             intro w hSw; (try dsimp only at hSw); go_simp; (try with_reducible rfl); done)
      try simp only [Act.put, List.setIfInBounds_toArray, List.set_cons_zero, List.set_cons_succ]
      refine wpAnyH_done (by kernel_rfl) ?_ _
      go_wp2_with fail
      refine bodyPost_ret (v := .tuple #[.agg #[.slice (some ⟨W0.heap.size + 1, 0, none⟩) n n, .slice (some ⟨W0.heap.size, 0, none⟩) t t], .bool true]) (by simp [results, Try.results26, Try.results27, go_sem, hr0, hrs]) rfl ?_
      obtain ⟨h1, h2, h3⟩ := nw_two' (w := w) (W := (W0.setCell ⟨w.heap.size, 0, none⟩ (.slice (some ⟨W0.heap.size + 1, 0, none⟩) n n)).setCell ⟨w.heap.size, 1, none⟩ (.slice (some ⟨W0.heap.size, 0, none⟩) t t)) (z := W0.heap.size) (by simp) ((HB0.out.setCell (Nat.le_refl _) _).setCell (Nat.le_refl _) _) (by simp; omega) n t (by omega) (by omega)
      exact nw_done h1 h2 (by omega) (by omega) (by omega) h3 _ _ HV.out
    · exact AllReadyH.nil
end Go.Proofs.Ytbachpfgakjncaa
namespace Go.Proofs.Ytbachpfgakjncaa
open Go.RowKit

theorem cntA_none {f : Nat → Int} {p : Int} (h : ∀ i, f i ≠ p) : ∀ m, cntA f p m = 0
  | 0 => rfl
  | m + 1 => by
    simp only [cntA]
    rw [cntA_none h m, if_neg (h m)]
theorem newL_vld {n m : Nat} (h1 : 1 ≤ n) (h2 : n ≤ 5) (h3 : m ≤ 5) : vldL (newL n m) = true := by
  refine vldL_of (inB_true.2 ⟨by show (1 : Int) ≤ (n : Int); omega, by show (n : Int) ≤ 5; omega⟩) h3 (fun k _ => rfl) (fun i _ => ?_) (fun k _ => ?_)
  · rw [trOk_true]
    exact ⟨⟨Int.le_refl _, by show (0 : Int) ≤ 2 * (n : Int); omega⟩, .inr (Int.le_refl _)⟩
  · rw [cnOk_true]
    show cntA (fun _ => 0) (2 * (k : Int) + 1) m = 0
    exact cntA_none (fun i => by omega) m
/-- the boxes of the draw of a line -/
structure DlM (w wr : World) (R b3 g1 c1 g2 c2 : Nat) (y : Ln) (M : Nat) : Prop where
  res : Bx wr w.heap.size 26 #[.slice none 0 0, .slice none 0 0]
  box : Bx wr b3 26 #[.slice (some ⟨g1, 0, none⟩) y.n c1, .slice (some ⟨g2, 0, none⟩) y.m c2]
  bs : Own wr g1 c1 y.n 3 75 (bkF y.N y.I y.O)
  ts : Own wr g2 c2 y.m 1 3 (fun i => .int .i64 (y.T i))
  d : g1 ≠ g2
  d1 : b3 ≠ g1
  d2 : b3 ≠ g2
  h1 : w.heap.size < g1
  h2 : w.heap.size < g2
  h3 : w.heap.size < b3
  rd : RdL wr R M
  hR : R < w.heap.size
  gr : w.grownBy wr (some R)
section
variable {w wr w' : World} {R b3 g1 c1 g2 c2 M M' : Nat} {y : Ln}
theorem DlM.lts (h : DlM w wr R b3 g1 c1 g2 c2 y M) : w.heap.size < wr.heap.size ∧ b3 < wr.heap.size ∧ g1 < wr.heap.size ∧ g2 < wr.heap.size := ⟨h.res.lt, h.box.lt, h.bs.lt, h.ts.lt⟩
theorem DlM.below (h : DlM w wr R b3 g1 c1 g2 c2 y M) (hb : Below wr.heap.size wr w') : DlM w w' R b3 g1 c1 g2 c2 y M := by
  obtain ⟨z0, z1, z2, z3⟩ := h.lts
  exact ⟨h.res.below hb z0, h.box.below hb z1, h.bs.below hb z2, h.ts.below hb z3, h.d, h.d1, h.d2, h.h1, h.h2, h.h3, h.rd.keep hb, h.hR, grownBy_trans h.gr (grownBy_below hb _)⟩
theorem DlM.drew (h : DlM w wr R b3 g1 c1 g2 c2 y M) : DlM w wr.drew R b3 g1 c1 g2 c2 y M := h.below (Below.refl _ _).drew
theorem DlM.pick (h : DlM w wr R b3 g1 c1 g2 c2 y M) (hr : RdL w' R M') (hg : wr.grownBy w' (some R)) : DlM w w' R b3 g1 c1 g2 c2 y M' := by
  have a1 := h.hR
  have a2 := h.h1
  have a3 := h.h2
  have a4 := h.h3
  exact ⟨h.res.kept hg (by omega), h.box.kept hg (by omega), h.bs.kept hg (by simp; omega), h.ts.kept hg (by simp; omega), h.d, h.d1, h.d2, h.h1, h.h2, h.h3, hr, h.hR, grownBy_trans h.gr hg⟩
theorem grow_set {b o : Nat} {v : Value} (h : w.grownBy wr (some R)) (hb : w.heap.size ≤ b) : w.grownBy (wr.setCell ⟨b, o, none⟩ v) (some R) :=
  grow_new h (grownBy_setCell wr b o v) hb
/-- another line in the box -/
theorem DlM.line (h : DlM w wr R b3 g1 c1 g2 c2 y M) {p1 e1 p2 e2 : Nat} {z : Ln} (hl : LnO (w.heap.size + 1) wr (.agg #[.slice (some ⟨p1, 0, none⟩) z.n e1, .slice (some ⟨p2, 0, none⟩) z.m e2]) z) (hp : b3 ≠ p1 ∧ b3 ≠ p2) :
    DlM w ((wr.setCell ⟨b3, 0, none⟩ (.slice (some ⟨p1, 0, none⟩) z.n e1)).setCell ⟨b3, 1, none⟩ (.slice (some ⟨p2, 0, none⟩) z.m e2)) R b3 p1 e1 p2 e2 z M := by
  obtain ⟨g1', c1', g2', c2', q, o1, o2, hd, a1, a2⟩ := hl
  cases q
  have a3 := h.h3
  have a4 := h.hR
  refine ⟨(h.res.setOther (by dsimp only; omega) _).setOther (by dsimp only; omega) _, ?_, (o1.setOther (by dsimp only; exact fun e => hp.1 e.symm) _).setOther (by dsimp only; exact fun e => hp.1 e.symm) _, (o2.setOther (by dsimp only; exact fun e => hp.2 e.symm) _).setOther (by dsimp only; exact fun e => hp.2 e.symm) _, hd, hp.1, hp.2, by omega, by omega, a3, (h.rd.set (by omega)).set (by omega), a4, grow_set (grow_set h.gr (by omega)) (by omega)⟩
  have hb := (h.box.set 0 (.slice (some ⟨p1, 0, none⟩) z.n e1)).set 1 (.slice (some ⟨p2, 0, none⟩) z.m e2)
  simpa using hb
theorem DlM.setBk (h : DlM w wr R b3 g1 c1 g2 c2 y M) (k : Nat) (a : Int) (b c : Bool) :
    DlM w (((wr.setCell ⟨g1, k * 3, none⟩ (.int .i64 a)).setCell ⟨g1, k * 3 + 1, none⟩ (.bool b)).setCell ⟨g1, k * 3 + 2, none⟩ (.bool c)) R b3 g1 c1 g2 c2 { y with N := upd y.N k a, I := upd y.I k b, O := upd y.O k c } M := by
  have a1 := h.h1
  have a4 := h.hR
  have d := h.d
  have d1 := h.d1
  exact ⟨((h.res.setOther (by dsimp only; omega) _).setOther (by dsimp only; omega) _).setOther (by dsimp only; omega) _, ((h.box.setOther (by dsimp only; omega) _).setOther (by dsimp only; omega) _).setOther (by dsimp only; omega) _, h.bs.setBk k a b c,
    ((h.ts.setOther (by dsimp only; omega) _).setOther (by dsimp only; omega) _).setOther (by dsimp only; omega) _, h.d, h.d1, h.d2, h.h1, h.h2, h.h3, ((h.rd.set (by omega)).set (by omega)).set (by omega), a4, grow_set (grow_set (grow_set h.gr (by omega)) (by omega)) (by omega)⟩
theorem DlM.setTr (h : DlM w wr R b3 g1 c1 g2 c2 y M) (k : Nat) (a : Int) :
    DlM w (wr.setCell ⟨g2, k, none⟩ (.int .i64 a)) R b3 g1 c1 g2 c2 { y with T := upd y.T k a } M := by
  have a1 := h.h2
  have a4 := h.hR
  have d := h.d
  have d2 := h.d2
  exact ⟨h.res.setOther (by dsimp only; omega) _, h.box.setOther (by dsimp only; omega) _, h.bs.setOther (by dsimp only; omega) _, h.ts.setInt k a, h.d, h.d1, h.d2, h.h1, h.h2, h.h3, h.rd.set (by omega), a4, grow_set h.gr (by omega)⟩
/-- one train more -/
theorem DlM.push {wa : World} {g' c' : Nat} {a : Int} (h : DlM w wr R b3 g1 c1 g2 c2 y M) (HA : Own wa g' c' (y.m + 1) 1 3 (fun i => .int .i64 (if i = y.m then a else y.T i))) (hg : wr.grownBy wa (some g2)) (hd : (g' = g2 ∧ c' = c2) ∨ wr.heap.size < g') :
    DlM w (wa.setCell ⟨b3, 1, none⟩ (.slice (some ⟨g', 0, none⟩) (y.m + 1) c')) R b3 g1 c1 g' c' { y with m := y.m + 1, T := upd y.T y.m a } M := by
  have a1 := h.h1
  have a2 := h.h2
  have a3 := h.h3
  have a4 := h.hR
  have d := h.d
  have d1 := h.d1
  have d2 := h.d2
  obtain ⟨z0, z1, z2, z3⟩ := h.lts
  have e1 : g1 ≠ g' := by rcases hd with ⟨q, _⟩ | q <;> omega
  have e2 : b3 ≠ g' := by rcases hd with ⟨q, _⟩ | q <;> omega
  have e3 : w.heap.size < g' := by rcases hd with ⟨q, _⟩ | q <;> omega
  refine ⟨(h.res.kept hg (by omega)).setOther (by dsimp only; omega) _, ?_, (h.bs.kept hg (by simp; omega)).setOther (by dsimp only; omega) _, Own.setOther HA (by dsimp only; omega) _, e1, d1, e2, a1, e3, a3, (h.rd.kept hg (by omega)).set (by omega), a4, grow_set (grow_new h.gr hg (by omega)) (by omega)⟩
  have hb := (h.box.kept hg (by omega)).set 1 (.slice (some ⟨g', 0, none⟩) (y.m + 1) c')
  simpa using hb
end
def tri (n : Nat) (j : Nat) : Int := if j = 0 then -1 else if j = 1 then 2 * (n : Int) + 1 else 1
theorem tri_at (n : Nat) {j : Nat} (h : j < 3) : (#[Value.int .i64 (-1), .int .i64 (2 * (n : Int) + 1), .int .i64 1] : Array Value)[j]? = some (.int .i64 (tri n j)) := by
  match j, h with
  | 0, _ => rfl
  | 1, _ => rfl
  | 2, _ => rfl
/-- a drawn line -/
def DLn (R M : Nat) (w : World) (e : Ending) (w' : World) : Prop :=
  ∃ v x, e = .returned v ∧ LnO w.heap.size w' v x ∧ 1 ≤ x.n ∧ x.n ≤ 4 ∧ x.m ≤ 5 ∧ RdL w' R M ∧ w.grownBy w' (some R)
theorem DlM.done {w wr : World} {R b3 g1 c1 g2 c2 M M' : Nat} {y : Ln} (h : DlM w wr R b3 g1 c1 g2 c2 y M) (h1 : 1 ≤ y.n) (h2 : y.n ≤ 4) (h3 : y.m ≤ 5) (hM : M ≤ M') (u0 u1 : Value) :
    DLn R M' w (.returned (.agg #[.slice (some ⟨g1, 0, none⟩) y.n c1, .slice (some ⟨g2, 0, none⟩) y.m c2])) ((wr.setCell ⟨w.heap.size, 0, none⟩ u0).setCell ⟨w.heap.size, 1, none⟩ u1) := by
  have a1 := h.h1
  have a2 := h.h2
  have a4 := h.hR
  exact ⟨_, y, rfl, ⟨g1, c1, g2, c2, rfl, (h.bs.setOther (by dsimp only; omega) _).setOther (by dsimp only; omega) _, (h.ts.setOther (by dsimp only; omega) _).setOther (by dsimp only; omega) _, h.d, by omega, by omega⟩, h1, h2, h3, (((h.rd.set (by omega)).set (by omega)).mono hM), grow_set (grow_set h.gr (Nat.le_refl _)) (Nat.le_refl _)⟩
set_option linter.unusedSimpArgs false in
set_option maxRecDepth 100000 in
set_option maxHeartbeats 4000000 in
theorem l92Line_any (R m : Nat) (w : World) (hm : m ≤ 100000) (hr : RdL w R m) :
    Calls Try.prog 44 #[.pointer (some ⟨R, 0, none⟩)] w (DLn R (m + 30) w) := by
  have hlR := hr.lt
  have HR0 := Lib.hid hr
  clear hr
  go_enter Try.func44, Try.ntmps44
  go_wp2_with fail
  refine (pickN_any R m 4 _ (by omega) (by omega) (HR0.out.alloc _)).mono ?_
  rintro e w1 ⟨a, rfl, ha, hr1, hg1⟩
  have HR1 := Lib.hid hr1
  have HX1 : Hid (Bx w1 w.heap.size 26 #[.slice none 0 0, .slice none 0 0]) := (Bx.new w _ _).kept hg1 (by omega)
  have HG1 : Hid (w.grownBy w1 (some R)) := grownBy_trans (grownBy_below (below_all _ _) _) hg1
  clear hr1 hg1
  go_wp2_with fail
  refine (pickN_any R (m + 1) 5 _ (by omega) (by omega) HR1.out).mono ?_
  rintro e w2 ⟨b, rfl, hb, hr2, hg2⟩
  have HR2 := Lib.hid hr2
  have HX2 := Lib.hid (HX1.out.kept hg2 (by omega))
  have HG2 := Lib.hid (grownBy_trans HG1.out hg2)
  have hz2 := HX2.out.lt
  clear hr2 hg2
  have HNW : Hid (nwO (1 + (a : Int)) (b : Int) = some (newL (a + 1) b)) := by
    show _ = _
    rw [show (1 + (a : Int)) = ((a + 1 : Nat) : Int) by omega]
    exact nwO_yes (inB_true.2 (by omega)) (inB_true.2 (by omega))
  go_wp2_with fail
  refine (specLineNew_any _ _ _).mono ?_
  rintro e w3 ⟨hb3, h3⟩
  rcases h3 with ⟨h, _⟩ | ⟨y, v, ho, rfl, hl⟩
  · exfalso
    rw [HNW.out] at h
    cases h
  obtain rfl : newL (a + 1) b = y := by
    have h := HNW.out
    rw [ho] at h
    cases h
    rfl
  clear ho
  have HL3 := Lib.hid hl
  obtain ⟨g1, c1, g2, c2, rfl, o1, o2, hd, k1, k2⟩ := hl
  have HM4 : Hid (DlM w (w3.alloc (.cells #[.slice (some ⟨g1, 0, none⟩) (newL (a + 1) b).n c1, .slice (some ⟨g2, 0, none⟩) (newL (a + 1) b).m c2] 26)) R w3.heap.size g1 c1 g2 c2 (newL (a + 1) b) (m + 2)) := by
    have l1 := o1.lt
    have l2 := o2.lt
    have l3 := hb3.size
    exact ⟨(HX2.out.below hb3 hz2).alloc _, Bx.new _ _ _, o1.alloc _, o2.alloc _, hd, by omega, by omega, by omega, by omega, by omega, (HR2.out.keep hb3).alloc _, hlR, grownBy_trans (grownBy_trans HG2.out (grownBy_below hb3 _)) (grownBy_below (below_all _ _) _)⟩
  have HV4 : Hid (vldL (newL (a + 1) b) = true) := newL_vld (by omega) (by omega) (by omega)
  have HN4 : Hid (1 ≤ (newL (a + 1) b).n ∧ (newL (a + 1) b).n ≤ 4) := ⟨by show 1 ≤ a + 1; omega, by show a + 1 ≤ 4; omega⟩
  have HC4 : Hid ((newL (a + 1) b).m ≤ 4) := by show b ≤ 4; omega
  clear o1 o2 hd k1 k2 hb3 HL3 HX1 HX2 HG1 HG2 HR1 HR2
  go_wp2_with fail
  generalize w3.alloc (.cells #[.slice (some ⟨g1, 0, none⟩) (newL (a + 1) b).n c1, .slice (some ⟨g2, 0, none⟩) (newL (a + 1) b).m c2] 26) = W4 at *
  generalize newL (a + 1) b = y at *
  clear HNW
  refine (pickN_any R (m + 2) 25 _ (by omega) (by omega) HM4.out.rd).mono ?_
  rintro e w5 ⟨q, rfl, hq, hr5, hg5⟩
  have HM5 := Lib.hid (HM4.out.pick hr5 hg5)
  clear hr5 hg5 HM4
  go_wp2_with fail
  generalize w3.heap.size = b3 at *
  go_loopw [6, 7] (fun i _ wr => ∃ (k g1 c1 g2 c2 : Nat) (y : Ln), k ≤ q ∧ i = .int .i64 k ∧ Hid (DlM w wr R b3 g1 c1 g2 c2 y (m + 3 + k)) ∧ Hid (vldL y = true) ∧ Hid (1 ≤ y.n ∧ y.n ≤ 4) ∧ Hid (y.m ≤ 4)) (fun i _ _ => q - (intOf i).toNat)
  case atStart => exact ⟨0, g1, c1, g2, c2, y, Nat.zero_le _, rfl, HM5, HV4, HN4, HC4⟩
  case round =>
    clear HV4 HN4 HC4 HM5
    obtain ⟨k, g1, c1, g2, c2, y, hk, rfl, HM, HV, HN, HC⟩ := hrel
    by_cases hlt : k < q
    · have hbc := HM.out.box.cell
      have HLM : Hid (Calls Try.prog 13 #[.agg #[.slice (some ⟨g1, 0, none⟩) y.n c1, .slice (some ⟨g2, 0, none⟩) y.m c2]] wr fun e W' => (∃ v g, e = .returned v ∧ RowMs wr.heap.size W' v (spL y) g) ∧ Below wr.heap.size wr W') :=
        specLineMoves_any g1 0 c1 g2 0 c2 y wr (by have := HN.out; omega) (by have := HC.out; omega) (BkC.of_own HM.out.bs) (IC.of_own HM.out.ts)
      obtain ⟨ms, hms⟩ : ∃ ms, ms = spL y := ⟨_, rfl⟩
      rw [← hms] at HLM
      have HMS := Lib.hid hms
      clear hms
      go_wp2_with fail
      refine HLM.out.mono ?_
      rintro e w2 ⟨⟨v, g, rfl, hrow⟩, hb2⟩
      have HM2 := Lib.hid (HM.out.below hb2)
      clear hb2 hbc HLM
      rcases hrow with ⟨bm, cm, _, rfl, hgz, how⟩ | ⟨_, h0, rfl⟩
      · have HO := Lib.hid how
        clear how
        rcases Nat.eq_zero_or_pos ms.length with h0 | h0
        · rw [h0]
          go_wp2_with fail
          go_roundw
          case rel => exact ⟨k + 1, g1, c1, g2, c2, y, by omega, by go_num, HM2.out.pick (HM2.out.rd.mono (by omega)) (World.grownBy.refl _ _), HV, HN, HC⟩
          case measure => simp [intOf]; omega
        have hmp : (0 : Int) < (ms.length : Int) := by omega
        have hml : ms.length ≤ 1000 := by
          rw [HMS.out, spL_lmL]
          have := lmL_len y
          omega
        have hbc := HM2.out.box.cell
        go_wp2_with fail
        have HM3 := Lib.hid HM2.out.drew
        have HO3 : Hid (Own w2.drew bm cm ms.length 2 34 (mvF (mvM ms) (mvS ms))) := HO.out.drew
        refine wp_region_held_drew (S := (fun _ => True)) (by kernel_rfl) trivial (fun hHeld => ?_)
        refine wpAnyH_take (i := 1) (oi := ?_) (v := ?_) ?_ (by kernel_rfl) (by kernel_rfl) (by kernel_rfl) ?_ ?_ (by assumption) ?_
        rotate_left 2
        · simp only [List.getElem?_toArray, List.getElem?_cons_succ, List.getElem?_cons_zero]; rfl
        · exact fun _ _ _ h => h
        · first
            | (refine Or.inr ⟨?_, ?_⟩ <;> rfl)
            | (refine Or.inl ⟨?_, ?_⟩; · rfl
               intro w hSw; (try dsimp only at hSw); go_simp; (try with_reducible rfl); done)
        try simp only [Act.put, List.setIfInBounds_toArray, List.set_cons_zero, List.set_cons_succ]
        refine wpAnyH_take (i := 2) (oi := ?_) (v := ?_) ?_ (by kernel_rfl) (by kernel_rfl) (by kernel_rfl) ?_ ?_ (by assumption) ?_
        rotate_left 2
        · simp only [List.getElem?_toArray, List.getElem?_cons_succ, List.getElem?_cons_zero]; rfl
        · exact fun _ _ _ h => h
        · first
            | (refine Or.inr ⟨?_, ?_⟩ <;> rfl)
            | (refine Or.inl ⟨?_, ?_⟩; · rfl
               intro w hSw; (try dsimp only at hSw); go_simp; (try with_reducible rfl); done)
        try simp only [Act.put, List.setIfInBounds_toArray, List.set_cons_zero, List.set_cons_succ]
        refine wpAnyH_take (i := 3) (oi := ?_) (v := ?_) ?_ (by kernel_rfl) (by kernel_rfl) (by kernel_rfl) ?_ ?_ (by assumption) ?_
        rotate_left 2
        · simp only [List.getElem?_toArray, List.getElem?_cons_succ, List.getElem?_cons_zero]; rfl
        · exact fun _ _ _ h => h
        · first
            | (refine Or.inr ⟨?_, ?_⟩ <;> rfl)
            | (refine Or.inl ⟨?_, ?_⟩; · rfl
               intro w hSw; (try dsimp only at hSw); go_simp; (try with_reducible rfl); done)
        try simp only [Act.put, List.setIfInBounds_toArray, List.set_cons_zero, List.set_cons_succ]
        refine wpAnyH_take (i := 4) (oi := ?_) (v := ?_) ?_ (by kernel_rfl) (by kernel_rfl) (by kernel_rfl) ?_ ?_ (by assumption) ?_
        rotate_left 2
        · simp only [List.getElem?_toArray, List.getElem?_cons_succ, List.getElem?_cons_zero]; rfl
        · exact fun _ _ _ h => h
        · first
            | (refine Or.inr ⟨?_, ?_⟩ <;> rfl)
            | (refine Or.inl ⟨?_, ?_⟩; · rfl
               intro w hSw; (try dsimp only at hSw); go_simp; (try with_reducible rfl); done)
        try simp only [Act.put, List.setIfInBounds_toArray, List.set_cons_zero, List.set_cons_succ]
        have hbc3 := HM3.out.box.cell
        clear hbc
        refine wpAnyH_ready (rs := [0, 5]) (by kernel_rfl) (by simp) ?_
        refine AllReadyH.cons (o := ?_) ?_ (fun K hK => ?_) ?_
        rotate_left 1
        · simp only [List.getElem?_toArray, List.getElem?_cons_succ, List.getElem?_cons_zero]; rfl
        · go_simp
          skip
          refine hK.out _ _ ?_ (fun hHeld => ?_)
          · exact trivial
          clear hK K
          try simp only [Act.put, List.setIfInBounds_toArray, List.set_cons_zero, List.set_cons_succ]
          refine wpAnyH_ready (rs := [5]) (by kernel_rfl) (by simp) ?_
          refine AllReadyH.cons (o := ?_) ?_ (fun K hK => ?_) AllReadyH.nil
          rotate_left 1
          · simp only [List.getElem?_toArray, List.getElem?_cons_succ, List.getElem?_cons_zero]; rfl
          go_simp
          go_at_call 64
          go_must (refine Calls.mono (pickN_any R (m + 3 + k) ms.length _ (by omega) (by omega) HM3.out.rd) ?_)
          rintro e w4 ⟨j, rfl, hj, hr4, hg4⟩
          have HM4 := Lib.hid (HM3.out.pick hr4 hg4)
          have HO4 : Hid (Own w4 bm cm ms.length 2 34 (mvF (mvM ms) (mvS ms))) := HO3.out.kept hg4 (by simp; have := HM3.out.hR; have := HM.out.lts; omega)
          have hbc4 := HM4.out.box.cell
          have hjI : (j : Int) < (ms.length : Int) := by omega
          have hmc := HO4.out.mv hj
          have HOK : Hid (mvOk y (mvM ms j) (mvS ms j) = true) := by
            have h : ms[j] ∈ spL y := by rw [← HMS.out]; exact List.getElem_mem _
            have h2 := spL_ok h
            unfold mvM mvS
            rw [List.getElem?_eq_getElem hj]
            exact h2
          generalize mvM ms j = s at *
          generalize mvS ms j = l at *
          have HST := Lib.hid (specLineStep_any g1 0 c1 g2 0 c2 y s l w4 (by have := HN.out; omega) (by have := HC.out; omega) (BkC.of_own HM4.out.bs) (IC.of_own HM4.out.ts))
          have HSO : Hid (stO y s l = some (mvTo y s l)) := by show _ = _; unfold stO stepO; rw [HV.out, HOK.out]; rfl
          clear hr4 hg4 hbc3
          refine hK.out _ _ ?_ (fun hHeld => ?_)
          · exact trivial
          clear hK K
          try simp only [Act.put, List.setIfInBounds_toArray, List.set_cons_zero, List.set_cons_succ]
          refine wpAnyH_take (i := 6) (oi := ?_) (v := ?_) ?_ (by kernel_rfl) (by kernel_rfl) (by kernel_rfl) ?_ ?_ (by assumption) ?_
          rotate_left 2
          · simp only [List.getElem?_toArray, List.getElem?_cons_succ, List.getElem?_cons_zero]; rfl
          · exact fun _ _ _ h => h
          · first
              | (refine Or.inr ⟨?_, ?_⟩ <;> rfl)
              | (refine Or.inl ⟨?_, ?_⟩; · rfl
                 intro w hSw; (try dsimp only at hSw); go_simp; (try with_reducible rfl); done)
          try simp only [Act.put, List.setIfInBounds_toArray, List.set_cons_zero, List.set_cons_succ]
          refine wpAnyH_ready (rs := [7]) (by kernel_rfl) (by simp) ?_
          refine AllReadyH.cons (o := ?_) ?_ (fun K hK => ?_) AllReadyH.nil
          rotate_left 1
          · simp only [List.getElem?_toArray, List.getElem?_cons_succ, List.getElem?_cons_zero]; rfl
          go_simp
          skip
          refine hK.out _ _ ?_ (fun hHeld => ?_)
          · exact trivial
          clear hK K
          try simp only [Act.put, List.setIfInBounds_toArray, List.set_cons_zero, List.set_cons_succ]
          refine wpAnyH_ready (rs := [8]) (by kernel_rfl) (by simp) ?_
          refine AllReadyH.cons (o := ?_) ?_ (fun K hK => ?_) AllReadyH.nil
          rotate_left 1
          · simp only [List.getElem?_toArray, List.getElem?_cons_succ, List.getElem?_cons_zero]; rfl
          go_simp
          go_at_call 79
          go_must (refine Calls.mono HST.out ?_)
          rintro e w6 ⟨hb6, h6⟩
          rcases h6 with ⟨h, _⟩ | ⟨y', v, ho, rfl, hl⟩
          · exact absurd (HSO.out.symm.trans h) (by simp)
          obtain rfl : mvTo y s l = y' := by
            have h := HSO.out
            rw [ho] at h
            cases h
            rfl
          clear ho
          have HL6 := Lib.hid hl
          have HM6 := Lib.hid (HM4.out.below hb6)
          obtain ⟨p1, e1, p2, e2, rfl, _⟩ := hl
          have hbc6 := HM6.out.box.cell
          have hbf6 := HM6.out.box.free
          have hz4 := HM4.out.lts
          clear hb6 hbc4 hmc
          refine hK.out _ _ ?_ (fun hHeld => ?_)
          · exact trivial
          clear hK K
          try simp only [Act.put, List.setIfInBounds_toArray, List.set_cons_zero, List.set_cons_succ]
          refine wpAnyH_take (i := 9) (oi := ?_) (v := ?_) ?_ (by kernel_rfl) (by kernel_rfl) (by kernel_rfl) ?_ ?_ (by assumption) ?_
          rotate_left 2
          · simp only [List.getElem?_toArray, List.getElem?_cons_succ, List.getElem?_cons_zero]; rfl
          · exact fun _ _ _ h => h
          · first
              | (refine Or.inr ⟨?_, ?_⟩ <;> rfl)
              | (refine Or.inl ⟨?_, ?_⟩; · rfl
                 intro w hSw; (try dsimp only at hSw); go_simp; (try with_reducible rfl); done)
          try simp only [Act.put, List.setIfInBounds_toArray, List.set_cons_zero, List.set_cons_succ]
          refine wpAnyH_take (i := 10) (oi := ?_) (v := ?_) ?_ (by kernel_rfl) (by kernel_rfl) (by kernel_rfl) ?_ ?_ (by assumption) ?_
          rotate_left 2
          · simp only [List.getElem?_toArray, List.getElem?_cons_succ, List.getElem?_cons_zero]; rfl
          · exact fun _ _ _ h => h
          · first
              | (refine Or.inr ⟨?_, ?_⟩ <;> rfl)
              | (refine Or.inl ⟨?_, ?_⟩; · rfl
                 intro w hSw; (try dsimp only at hSw); go_simp; (try with_reducible rfl); done)
          try simp only [Act.put, List.setIfInBounds_toArray, List.set_cons_zero, List.set_cons_succ]
          refine wpAnyH_take (i := 11) (oi := ?_) (v := ?_) ?_ (by kernel_rfl) (by kernel_rfl) (by kernel_rfl) ?_ ?_ (by assumption) ?_
          rotate_left 2
          · simp only [List.getElem?_toArray, List.getElem?_cons_succ, List.getElem?_cons_zero]; rfl
          · exact fun _ _ _ h => h
          · first
              | (refine Or.inr ⟨?_, ?_⟩ <;> rfl)
              | (refine Or.inl ⟨?_, ?_⟩; · rfl
                 intro w hSw; (try dsimp only at hSw); go_simp; (try with_reducible rfl); done)
          try simp only [Act.put, List.setIfInBounds_toArray, List.set_cons_zero, List.set_cons_succ]
          refine wpAnyH_ready (rs := [12]) (by kernel_rfl) (by simp) ?_
          refine AllReadyH.cons (o := ?_) ?_ (fun K hK => ?_) AllReadyH.nil
          rotate_left 1
          · simp only [List.getElem?_toArray, List.getElem?_cons_succ, List.getElem?_cons_zero]; rfl
          go_simp
          skip
          refine hK.out _ _ ?_ (fun hHeld => ?_)
          · exact trivial
          clear hK K
          try simp only [Act.put, List.setIfInBounds_toArray, List.set_cons_zero, List.set_cons_succ]
          refine wpAnyH_done (by kernel_rfl) ?_ _
          have HP : Hid (b3 ≠ p1 ∧ b3 ≠ p2) := by
            obtain ⟨_, _, _, _, q, _, _, _, k1, k2⟩ := HL6.out
            cases q
            exact ⟨by omega, by omega⟩
          have HM7 := Lib.hid (HM6.out.line (HL6.out.mono (by omega)) HP.out)
          have HV7 : Hid (vldL (mvTo y s l) = true) := vld_mv HV.out HOK.out
          go_wp2_with fail
          go_roundw
          case rel => exact ⟨k + 1, p1, e1, p2, e2, mvTo y s l, by omega, by go_num, HM7, HV7, HN, HC⟩
          case measure => simp [intOf]; omega
        · refine AllReadyH.cons (o := ?_) ?_ (fun K hK => ?_) ?_
          rotate_left 1
          · simp only [List.getElem?_toArray, List.getElem?_cons_succ, List.getElem?_cons_zero]; rfl
          · go_simp
            go_at_call 64
            go_must (refine Calls.mono (pickN_any R (m + 3 + k) ms.length _ (by omega) (by omega) HM3.out.rd) ?_)
            rintro e w4 ⟨j, rfl, hj, hr4, hg4⟩
            have HM4 := Lib.hid (HM3.out.pick hr4 hg4)
            have HO4 : Hid (Own w4 bm cm ms.length 2 34 (mvF (mvM ms) (mvS ms))) := HO3.out.kept hg4 (by simp; have := HM3.out.hR; have := HM.out.lts; omega)
            have hbc4 := HM4.out.box.cell
            have hjI : (j : Int) < (ms.length : Int) := by omega
            have hmc := HO4.out.mv hj
            have HOK : Hid (mvOk y (mvM ms j) (mvS ms j) = true) := by
              have h : ms[j] ∈ spL y := by rw [← HMS.out]; exact List.getElem_mem _
              have h2 := spL_ok h
              unfold mvM mvS
              rw [List.getElem?_eq_getElem hj]
              exact h2
            generalize mvM ms j = s at *
            generalize mvS ms j = l at *
            have HST := Lib.hid (specLineStep_any g1 0 c1 g2 0 c2 y s l w4 (by have := HN.out; omega) (by have := HC.out; omega) (BkC.of_own HM4.out.bs) (IC.of_own HM4.out.ts))
            have HSO : Hid (stO y s l = some (mvTo y s l)) := by show _ = _; unfold stO stepO; rw [HV.out, HOK.out]; rfl
            clear hr4 hg4 hbc3
            refine hK.out _ _ ?_ (fun hHeld => ?_)
            · exact trivial
            clear hK K
            try simp only [Act.put, List.setIfInBounds_toArray, List.set_cons_zero, List.set_cons_succ]
            refine wpAnyH_take (i := 6) (oi := ?_) (v := ?_) ?_ (by kernel_rfl) (by kernel_rfl) (by kernel_rfl) ?_ ?_ (by assumption) ?_
            rotate_left 2
            · simp only [List.getElem?_toArray, List.getElem?_cons_succ, List.getElem?_cons_zero]; rfl
            · exact fun _ _ _ h => h
            · first
                | (refine Or.inr ⟨?_, ?_⟩ <;> rfl)
                | (refine Or.inl ⟨?_, ?_⟩; · rfl
                   intro w hSw; (try dsimp only at hSw); go_simp; (try with_reducible rfl); done)
            try simp only [Act.put, List.setIfInBounds_toArray, List.set_cons_zero, List.set_cons_succ]
            refine wpAnyH_ready (rs := [0, 7]) (by kernel_rfl) (by simp) ?_
            refine AllReadyH.cons (o := ?_) ?_ (fun K hK => ?_) ?_
            rotate_left 1
            · simp only [List.getElem?_toArray, List.getElem?_cons_succ, List.getElem?_cons_zero]; rfl
            · go_simp
              skip
              refine hK.out _ _ ?_ (fun hHeld => ?_)
              · exact trivial
              clear hK K
              try simp only [Act.put, List.setIfInBounds_toArray, List.set_cons_zero, List.set_cons_succ]
              refine wpAnyH_ready (rs := [7]) (by kernel_rfl) (by simp) ?_
              refine AllReadyH.cons (o := ?_) ?_ (fun K hK => ?_) AllReadyH.nil
              rotate_left 1
              · simp only [List.getElem?_toArray, List.getElem?_cons_succ, List.getElem?_cons_zero]; rfl
              go_simp
              skip
              refine hK.out _ _ ?_ (fun hHeld => ?_)
              · exact trivial
              clear hK K
              try simp only [Act.put, List.setIfInBounds_toArray, List.set_cons_zero, List.set_cons_succ]
              refine wpAnyH_ready (rs := [8]) (by kernel_rfl) (by simp) ?_
              refine AllReadyH.cons (o := ?_) ?_ (fun K hK => ?_) AllReadyH.nil
              rotate_left 1
              · simp only [List.getElem?_toArray, List.getElem?_cons_succ, List.getElem?_cons_zero]; rfl
              go_simp
              go_at_call 79
              go_must (refine Calls.mono HST.out ?_)
              rintro e w6 ⟨hb6, h6⟩
              rcases h6 with ⟨h, _⟩ | ⟨y', v, ho, rfl, hl⟩
              · exact absurd (HSO.out.symm.trans h) (by simp)
              obtain rfl : mvTo y s l = y' := by
                have h := HSO.out
                rw [ho] at h
                cases h
                rfl
              clear ho
              have HL6 := Lib.hid hl
              have HM6 := Lib.hid (HM4.out.below hb6)
              obtain ⟨p1, e1, p2, e2, rfl, _⟩ := hl
              have hbc6 := HM6.out.box.cell
              have hbf6 := HM6.out.box.free
              have hz4 := HM4.out.lts
              clear hb6 hbc4 hmc
              refine hK.out _ _ ?_ (fun hHeld => ?_)
              · exact trivial
              clear hK K
              try simp only [Act.put, List.setIfInBounds_toArray, List.set_cons_zero, List.set_cons_succ]
              refine wpAnyH_take (i := 9) (oi := ?_) (v := ?_) ?_ (by kernel_rfl) (by kernel_rfl) (by kernel_rfl) ?_ ?_ (by assumption) ?_
              rotate_left 2
              · simp only [List.getElem?_toArray, List.getElem?_cons_succ, List.getElem?_cons_zero]; rfl
              · exact fun _ _ _ h => h
              · first
                  | (refine Or.inr ⟨?_, ?_⟩ <;> rfl)
                  | (refine Or.inl ⟨?_, ?_⟩; · rfl
                     intro w hSw; (try dsimp only at hSw); go_simp; (try with_reducible rfl); done)
              try simp only [Act.put, List.setIfInBounds_toArray, List.set_cons_zero, List.set_cons_succ]
              refine wpAnyH_take (i := 10) (oi := ?_) (v := ?_) ?_ (by kernel_rfl) (by kernel_rfl) (by kernel_rfl) ?_ ?_ (by assumption) ?_
              rotate_left 2
              · simp only [List.getElem?_toArray, List.getElem?_cons_succ, List.getElem?_cons_zero]; rfl
              · exact fun _ _ _ h => h
              · first
                  | (refine Or.inr ⟨?_, ?_⟩ <;> rfl)
                  | (refine Or.inl ⟨?_, ?_⟩; · rfl
                     intro w hSw; (try dsimp only at hSw); go_simp; (try with_reducible rfl); done)
              try simp only [Act.put, List.setIfInBounds_toArray, List.set_cons_zero, List.set_cons_succ]
              refine wpAnyH_take (i := 11) (oi := ?_) (v := ?_) ?_ (by kernel_rfl) (by kernel_rfl) (by kernel_rfl) ?_ ?_ (by assumption) ?_
              rotate_left 2
              · simp only [List.getElem?_toArray, List.getElem?_cons_succ, List.getElem?_cons_zero]; rfl
              · exact fun _ _ _ h => h
              · first
                  | (refine Or.inr ⟨?_, ?_⟩ <;> rfl)
                  | (refine Or.inl ⟨?_, ?_⟩; · rfl
                     intro w hSw; (try dsimp only at hSw); go_simp; (try with_reducible rfl); done)
              try simp only [Act.put, List.setIfInBounds_toArray, List.set_cons_zero, List.set_cons_succ]
              refine wpAnyH_ready (rs := [12]) (by kernel_rfl) (by simp) ?_
              refine AllReadyH.cons (o := ?_) ?_ (fun K hK => ?_) AllReadyH.nil
              rotate_left 1
              · simp only [List.getElem?_toArray, List.getElem?_cons_succ, List.getElem?_cons_zero]; rfl
              go_simp
              skip
              refine hK.out _ _ ?_ (fun hHeld => ?_)
              · exact trivial
              clear hK K
              try simp only [Act.put, List.setIfInBounds_toArray, List.set_cons_zero, List.set_cons_succ]
              refine wpAnyH_done (by kernel_rfl) ?_ _
              have HP : Hid (b3 ≠ p1 ∧ b3 ≠ p2) := by
                obtain ⟨_, _, _, _, q, _, _, _, k1, k2⟩ := HL6.out
                cases q
                exact ⟨by omega, by omega⟩
              have HM7 := Lib.hid (HM6.out.line (HL6.out.mono (by omega)) HP.out)
              have HV7 : Hid (vldL (mvTo y s l) = true) := vld_mv HV.out HOK.out
              go_wp2_with fail
              go_roundw
              case rel => exact ⟨k + 1, p1, e1, p2, e2, mvTo y s l, by omega, by go_num, HM7, HV7, HN, HC⟩
              case measure => simp [intOf]; omega
            · refine AllReadyH.cons (o := ?_) ?_ (fun K hK => ?_) ?_
              rotate_left 1
              · simp only [List.getElem?_toArray, List.getElem?_cons_succ, List.getElem?_cons_zero]; rfl
              · go_simp
                skip
                refine hK.out _ _ ?_ (fun hHeld => ?_)
                · exact trivial
                clear hK K
                try simp only [Act.put, List.setIfInBounds_toArray, List.set_cons_zero, List.set_cons_succ]
                refine wpAnyH_ready (rs := [0]) (by kernel_rfl) (by simp) ?_
                refine AllReadyH.cons (o := ?_) ?_ (fun K hK => ?_) AllReadyH.nil
                rotate_left 1
                · simp only [List.getElem?_toArray, List.getElem?_cons_succ, List.getElem?_cons_zero]; rfl
                go_simp
                skip
                refine hK.out _ _ ?_ (fun hHeld => ?_)
                · exact trivial
                clear hK K
                try simp only [Act.put, List.setIfInBounds_toArray, List.set_cons_zero, List.set_cons_succ]
                refine wpAnyH_ready (rs := [8]) (by kernel_rfl) (by simp) ?_
                refine AllReadyH.cons (o := ?_) ?_ (fun K hK => ?_) AllReadyH.nil
                rotate_left 1
                · simp only [List.getElem?_toArray, List.getElem?_cons_succ, List.getElem?_cons_zero]; rfl
                go_simp
                go_at_call 79
                go_must (refine Calls.mono HST.out ?_)
                rintro e w6 ⟨hb6, h6⟩
                rcases h6 with ⟨h, _⟩ | ⟨y', v, ho, rfl, hl⟩
                · exact absurd (HSO.out.symm.trans h) (by simp)
                obtain rfl : mvTo y s l = y' := by
                  have h := HSO.out
                  rw [ho] at h
                  cases h
                  rfl
                clear ho
                have HL6 := Lib.hid hl
                have HM6 := Lib.hid (HM4.out.below hb6)
                obtain ⟨p1, e1, p2, e2, rfl, _⟩ := hl
                have hbc6 := HM6.out.box.cell
                have hbf6 := HM6.out.box.free
                have hz4 := HM4.out.lts
                clear hb6 hbc4 hmc
                refine hK.out _ _ ?_ (fun hHeld => ?_)
                · exact trivial
                clear hK K
                try simp only [Act.put, List.setIfInBounds_toArray, List.set_cons_zero, List.set_cons_succ]
                refine wpAnyH_take (i := 9) (oi := ?_) (v := ?_) ?_ (by kernel_rfl) (by kernel_rfl) (by kernel_rfl) ?_ ?_ (by assumption) ?_
                rotate_left 2
                · simp only [List.getElem?_toArray, List.getElem?_cons_succ, List.getElem?_cons_zero]; rfl
                · exact fun _ _ _ h => h
                · first
                    | (refine Or.inr ⟨?_, ?_⟩ <;> rfl)
                    | (refine Or.inl ⟨?_, ?_⟩; · rfl
                       intro w hSw; (try dsimp only at hSw); go_simp; (try with_reducible rfl); done)
                try simp only [Act.put, List.setIfInBounds_toArray, List.set_cons_zero, List.set_cons_succ]
                refine wpAnyH_take (i := 10) (oi := ?_) (v := ?_) ?_ (by kernel_rfl) (by kernel_rfl) (by kernel_rfl) ?_ ?_ (by assumption) ?_
                rotate_left 2
                · simp only [List.getElem?_toArray, List.getElem?_cons_succ, List.getElem?_cons_zero]; rfl
                · exact fun _ _ _ h => h
                · first
                    | (refine Or.inr ⟨?_, ?_⟩ <;> rfl)
                    | (refine Or.inl ⟨?_, ?_⟩; · rfl
                       intro w hSw; (try dsimp only at hSw); go_simp; (try with_reducible rfl); done)
                try simp only [Act.put, List.setIfInBounds_toArray, List.set_cons_zero, List.set_cons_succ]
                refine wpAnyH_take (i := 11) (oi := ?_) (v := ?_) ?_ (by kernel_rfl) (by kernel_rfl) (by kernel_rfl) ?_ ?_ (by assumption) ?_
                rotate_left 2
                · simp only [List.getElem?_toArray, List.getElem?_cons_succ, List.getElem?_cons_zero]; rfl
                · exact fun _ _ _ h => h
                · first
                    | (refine Or.inr ⟨?_, ?_⟩ <;> rfl)
                    | (refine Or.inl ⟨?_, ?_⟩; · rfl
                       intro w hSw; (try dsimp only at hSw); go_simp; (try with_reducible rfl); done)
                try simp only [Act.put, List.setIfInBounds_toArray, List.set_cons_zero, List.set_cons_succ]
                refine wpAnyH_ready (rs := [12]) (by kernel_rfl) (by simp) ?_
                refine AllReadyH.cons (o := ?_) ?_ (fun K hK => ?_) AllReadyH.nil
                rotate_left 1
                · simp only [List.getElem?_toArray, List.getElem?_cons_succ, List.getElem?_cons_zero]; rfl
                go_simp
                skip
                refine hK.out _ _ ?_ (fun hHeld => ?_)
                · exact trivial
                clear hK K
                try simp only [Act.put, List.setIfInBounds_toArray, List.set_cons_zero, List.set_cons_succ]
                refine wpAnyH_done (by kernel_rfl) ?_ _
                have HP : Hid (b3 ≠ p1 ∧ b3 ≠ p2) := by
                  obtain ⟨_, _, _, _, q, _, _, _, k1, k2⟩ := HL6.out
                  cases q
                  exact ⟨by omega, by omega⟩
                have HM7 := Lib.hid (HM6.out.line (HL6.out.mono (by omega)) HP.out)
                have HV7 : Hid (vldL (mvTo y s l) = true) := vld_mv HV.out HOK.out
                go_wp2_with fail
                go_roundw
                case rel => exact ⟨k + 1, p1, e1, p2, e2, mvTo y s l, by omega, by go_num, HM7, HV7, HN, HC⟩
                case measure => simp [intOf]; omega
              · exact AllReadyH.nil
          · exact AllReadyH.nil
      · rw [h0] at HMS
        clear h0
        go_wp2_with fail
        go_roundw
        case rel => exact ⟨k + 1, g1, c1, g2, c2, y, by omega, by go_num, HM2.out.pick (HM2.out.rd.mono (by omega)) (World.grownBy.refl _ _), HV, HN, HC⟩
        case measure => simp [intOf]; omega
    · obtain rfl : k = q := by omega
      go_wp2_with fail
      refine (pickN_any R (m + 3 + k) 40 _ (by omega) (by omega) HM.out.rd).mono ?_
      rintro e w6 ⟨v, rfl, hv, hr6, hg6⟩
      have HM6 := Lib.hid (HM.out.pick hr6 hg6)
      have hbc := HM6.out.box.cell
      have hh1 := HM6.out.h1
      have hh2 := HM6.out.h2
      have hh3 := HM6.out.h3
      have hd := HM6.out.d
      have hd1 := HM6.out.d1
      have hd2 := HM6.out.d2
      clear hr6 hg6
      by_cases hv0 : v = 0
      · subst hv0
        have hblk := HM6.out.bs.bl (k := 0) (by have := HN.out; omega)
        have hbf := HM6.out.bs.free
        have hyn : (0 : Int) < (y.n : Int) := by have := HN.out; omega
        have HMe : Hid (DlM w (((w6.setCell ⟨g1, 0, none⟩ (.int .i64 2)).setCell ⟨g1, 1, none⟩ (.bool true)).setCell ⟨g1, 2, none⟩ (.bool false)) R b3 g1 c1 g2 c2 { y with N := upd y.N 0 2, I := upd y.I 0 true, O := upd y.O 0 false } (m + 3 + k + 1)) := by
          have h := HM6.out.setBk 0 2 true false
          exact h
        have hrc := HMe.out.res.cell
        have hrf := HM6.out.res.free
        have hrc6 := HM6.out.res.cell
        have n1 : g1 ≠ w.heap.size := by omega
        have n2 : w.heap.size ≠ g1 := by omega
        have n3 : w.heap.size ≠ b3 := by omega
        have n4 : g1 ≠ b3 := by omega
        go_wp2_with fail
        exact bodyPost_ret (v := .agg #[.slice (some ⟨g1, 0, none⟩) y.n c1, .slice (some ⟨g2, 0, none⟩) y.m c2]) (by simp [results, Try.results44, go_sem, hrc]) rfl (HMe.out.done HN.out.1 HN.out.2 (by have := HC.out; show y.m ≤ 5; omega) (by omega) _ _)
      have hv0' : ((v : Int) == 0) = false := by simp; omega
      clear hv0
      by_cases hv1 : v = 1
      · subst hv1
        have hrf := HM6.out.res.free
        have n1 : g2 ≠ w.heap.size := by omega
        have n2 : w.heap.size ≠ g2 := by omega
        have n3 : w.heap.size ≠ b3 := by omega
        have n4 : b3 ≠ w.heap.size := by omega
        have hyn5 : y.n ≤ 4 := HN.out.2
        have hym5 : y.m ≤ 4 := HC.out
        go_wp2_with (at_builtin; refine wpList_pushI elInt rfl (.tmp 52) (.tmp 57) (by rfl) (f := fun i => if i = y.m then 2 * (y.n : Int) else y.T i) (HM6.out.ts.congr (fun i hi => by rw [if_neg (by omega)])) (by rfl) (by rfl) (by simp) (by omega) ?_; intro g' c' wa HA hgr hdd; have hbxc := (HM6.out.box.kept hgr (by omega)).cell; have hbxf := (HM6.out.box.kept hgr (by omega)).free; have hrsc := (HM6.out.res.kept hgr (by omega)).cell; have hrsf := (HM6.out.res.kept hgr (by omega)).free; have HMe := Lib.hid (HM6.out.push HA hgr hdd); clear HA hgr hdd)
        have hrc := HMe.out.res.cell
        exact bodyPost_ret (v := .agg #[.slice (some ⟨g1, 0, none⟩) y.n c1, .slice (some ⟨g', 0, none⟩) (y.m + 1) c']) (by simp [results, Try.results44, go_sem, hrc]) rfl (HMe.out.done HN.out.1 HN.out.2 (by show y.m + 1 ≤ 5; omega) (by omega) _ _)
      have hv1' : ((v : Int) == 1) = false := by simp; omega
      clear hv1
      by_cases hv2 : v = 2
      · subst hv2
        have hrf := HM6.out.res.free
        have hrc := HM6.out.res.cell
        rcases Nat.eq_zero_or_pos y.m with hm0 | hm0
        · have hym5 : y.m ≤ 4 := HC.out
          have hmi : ¬ (0 : Int) < (y.m : Int) := by omega
          clear hm0
          go_wp2_with fail
          exact bodyPost_ret (v := .agg #[.slice (some ⟨g1, 0, none⟩) y.n c1, .slice (some ⟨g2, 0, none⟩) y.m c2]) (by simp [results, Try.results44, go_sem, hrc]) rfl (HM6.out.done HN.out.1 HN.out.2 (by omega) (by omega) _ _)
        have hmi : (0 : Int) < (y.m : Int) := by omega
        have hyn5 : y.n ≤ 4 := HN.out.2
        have hym5 : y.m ≤ 4 := HC.out
        have hz6 := HM6.out.lts
        obtain ⟨z0, z1, z2, z3⟩ := hz6
        go_wp2_with fail
        have HM7 := Lib.hid HM6.out.drew
        have hw1 : IntKind.i64.wrap (2 * (y.n : Int)) = 2 * (y.n : Int) := IntWalk.i64_in _ (by omega)
        have hw2 : IntKind.i64.wrap (2 * (y.n : Int) + 1) = 2 * (y.n : Int) + 1 := IntWalk.i64_in _ (by omega)
        refine wp_region_held_drew (S := (fun w' => w'.cell? ⟨b3, 0, none⟩ = some (.slice (some ⟨g1, 0, none⟩) y.n c1) ∧ w'.cell? ⟨b3, 1, none⟩ = some (.slice (some ⟨g2, 0, none⟩) y.m c2))) (by kernel_rfl) ?_ (fun hHeld => ?_)
        · try dsimp only
          go_keep
        refine wpAnyH_take (i := 0) (oi := ?_) (v := ?_) ?_ (by kernel_rfl) (by kernel_rfl) (by kernel_rfl) ?_ ?_ (by assumption) ?_
        rotate_left 2
        · simp only [List.getElem?_toArray, List.getElem?_cons_succ, List.getElem?_cons_zero]; rfl
        · exact fun _ _ _ h => h
        · first
            | (refine Or.inr ⟨?_, ?_⟩ <;> rfl)
            | (refine Or.inl ⟨?_, ?_⟩; · rfl
               intro w hSw; (try dsimp only at hSw); go_simp; (try with_reducible rfl); done)
        try simp only [Act.put, List.setIfInBounds_toArray, List.set_cons_zero, List.set_cons_succ]
        refine wpAnyH_take (i := 1) (oi := ?_) (v := ?_) ?_ (by kernel_rfl) (by kernel_rfl) (by kernel_rfl) ?_ ?_ (by assumption) ?_
        rotate_left 2
        · simp only [List.getElem?_toArray, List.getElem?_cons_succ, List.getElem?_cons_zero]; rfl
        · exact fun _ _ _ h => h
        · first
            | (refine Or.inr ⟨?_, ?_⟩ <;> rfl)
            | (refine Or.inl ⟨?_, ?_⟩; · rfl
               intro w hSw; (try dsimp only at hSw); go_simp; (try with_reducible rfl); done)
        try simp only [Act.put, List.setIfInBounds_toArray, List.set_cons_zero, List.set_cons_succ]
        refine wpAnyH_take (i := 2) (oi := ?_) (v := ?_) ?_ (by kernel_rfl) (by kernel_rfl) (by kernel_rfl) ?_ ?_ (by assumption) ?_
        rotate_left 2
        · simp only [List.getElem?_toArray, List.getElem?_cons_succ, List.getElem?_cons_zero]; rfl
        · exact fun _ _ _ h => h
        · first
            | (refine Or.inr ⟨?_, ?_⟩ <;> rfl)
            | (refine Or.inl ⟨?_, ?_⟩; · rfl
               intro w hSw; (try dsimp only at hSw); go_simp; (try with_reducible rfl); done)
        try simp only [Act.put, List.setIfInBounds_toArray, List.set_cons_zero, List.set_cons_succ]
        refine wpAnyH_take (i := 3) (oi := ?_) (v := ?_) ?_ (by kernel_rfl) (by kernel_rfl) (by kernel_rfl) ?_ ?_ (by assumption) ?_
        rotate_left 2
        · simp only [List.getElem?_toArray, List.getElem?_cons_succ, List.getElem?_cons_zero]; rfl
        · exact fun _ _ _ h => h
        · first
            | (refine Or.inr ⟨?_, ?_⟩ <;> rfl)
            | (refine Or.inl ⟨?_, ?_⟩; · rfl
               intro w hSw; (try dsimp only at hSw); go_simp; (try with_reducible rfl); done)
        try simp only [Act.put, List.setIfInBounds_toArray, List.set_cons_zero, List.set_cons_succ]
        refine wpAnyH_take (i := 4) (oi := ?_) (v := ?_) ?_ (by kernel_rfl) (by kernel_rfl) (by kernel_rfl) ?_ ?_ (by assumption) ?_
        rotate_left 2
        · simp only [List.getElem?_toArray, List.getElem?_cons_succ, List.getElem?_cons_zero]; rfl
        · exact fun _ _ _ h => h
        · first
            | (refine Or.inr ⟨?_, ?_⟩ <;> rfl)
            | (refine Or.inl ⟨?_, ?_⟩; · rfl
               intro w hSw; (try dsimp only at hSw); go_simp; (try with_reducible rfl); done)
        try simp only [Act.put, List.setIfInBounds_toArray, List.set_cons_zero, List.set_cons_succ]
        refine wpAnyH_take (i := 5) (oi := ?_) (v := ?_) ?_ (by kernel_rfl) (by kernel_rfl) (by kernel_rfl) ?_ ?_ (by assumption) ?_
        rotate_left 2
        · simp only [List.getElem?_toArray, List.getElem?_cons_succ, List.getElem?_cons_zero]; rfl
        · exact fun _ _ _ h => h
        · first
            | (refine Or.inr ⟨?_, ?_⟩ <;> rfl)
            | (refine Or.inl ⟨?_, ?_⟩; · rfl
               intro w hSw; (try dsimp only at hSw); go_simp; (try with_reducible rfl); done)
        try simp only [Act.put, List.setIfInBounds_toArray, List.set_cons_zero, List.set_cons_succ]
        refine wpAnyH_take (i := 6) (oi := ?_) (v := ?_) ?_ (by kernel_rfl) (by kernel_rfl) (by kernel_rfl) ?_ ?_ (by assumption) ?_
        rotate_left 2
        · simp only [List.getElem?_toArray, List.getElem?_cons_succ, List.getElem?_cons_zero]; rfl
        · exact fun _ _ _ h => h
        · first
            | (refine Or.inr ⟨?_, ?_⟩ <;> rfl)
            | (refine Or.inl ⟨?_, ?_⟩; · rfl
               intro w hSw; (try dsimp only at hSw); go_simp; (try with_reducible rfl); done)
        try simp only [Act.put, List.setIfInBounds_toArray, List.set_cons_zero, List.set_cons_succ]
        refine wpAnyH_take (i := 8) (oi := ?_) (v := ?_) ?_ (by kernel_rfl) (by kernel_rfl) (by kernel_rfl) ?_ ?_ (by assumption) ?_
        rotate_left 2
        · simp only [List.getElem?_toArray, List.getElem?_cons_succ, List.getElem?_cons_zero]; rfl
        · exact fun _ _ _ h => h
        · first
            | (refine Or.inr ⟨?_, ?_⟩ <;> rfl)
            | (refine Or.inl ⟨?_, ?_⟩; · rfl
               intro w hSw; (try dsimp only at hSw); go_simp; (try with_reducible rfl); done)
        try simp only [Act.put, List.setIfInBounds_toArray, List.set_cons_zero, List.set_cons_succ]
        refine wpAnyH_ready (rs := [7, 9]) (by kernel_rfl) (by simp) ?_
        refine AllReadyH.cons (o := ?_) ?_ (fun K hK => ?_) ?_
        rotate_left 1
        · simp only [List.getElem?_toArray, List.getElem?_cons_succ, List.getElem?_cons_zero]; rfl
        · go_simp
          skip
          refine hK.out _ _ ?_ (fun hHeld => ?_)
          · try dsimp only
            go_keep
          clear hK K
          try simp only [Act.put, List.setIfInBounds_toArray, List.set_cons_zero, List.set_cons_succ]
          have HM8 : Hid (DlM w (w6.alloc (.cells #[.int .i64 (-1), .int .i64 (2 * (y.n : Int) + 1), .int .i64 1] 3)).drew R b3 g1 c1 g2 c2 y (m + 3 + k + 1)) := (HM6.out.below (below_all _ _)).drew
          have hyc : ∀ o, (w6.alloc (.cells #[.int .i64 (-1), .int .i64 (2 * (y.n : Int) + 1), .int .i64 1] 3)).drew.cell? ⟨w6.heap.size, o, none⟩ = (#[Value.int .i64 (-1), .int .i64 (2 * (y.n : Int) + 1), .int .i64 1] : Array Value)[o]? := box_new w6 _ _
          have hz8 : w6.heap.size < (w6.alloc (.cells #[.int .i64 (-1), .int .i64 (2 * (y.n : Int) + 1), .int .i64 1] 3)).drew.heap.size := by simp
          generalize (w6.alloc (.cells #[.int .i64 (-1), .int .i64 (2 * (y.n : Int) + 1), .int .i64 1] 3)).drew = W8 at *
          have hbc8 := HM8.out.box.cell
          clear hbc
          refine wpAnyH_ready (rs := [9]) (by kernel_rfl) (by simp) ?_
          refine AllReadyH.cons (o := ?_) ?_ (fun K hK => ?_) AllReadyH.nil
          rotate_left 1
          · simp only [List.getElem?_toArray, List.getElem?_cons_succ, List.getElem?_cons_zero]; rfl
          go_simp
          go_at_call 64
          go_must (refine Calls.mono (pickN_any R (m + 3 + k + 1) 3 _ (by omega) (by omega) HM8.out.rd) ?_)
          rintro e w9 ⟨j, rfl, hj, hr9, hg9⟩
          have HML := Lib.hid (HM8.out.pick hr9 hg9)
          have hbc9 := HML.out.box.cell
          have hjc : w9.cell? ⟨w6.heap.size, j, none⟩ = some (.int .i64 (tri y.n j)) := by rw [gcell hg9 w6.heap.size j hz8 (by omega), hyc]; exact tri_at _ hj
          have hjI : (j : Int) < 3 := by omega
          clear hr9 hg9 hbc8 hyc
          refine hK.out _ _ ?_ (fun hHeld => ?_)
          · try dsimp only
            go_keep
          clear hK K
          try simp only [Act.put, List.setIfInBounds_toArray, List.set_cons_zero, List.set_cons_succ]
          clear hbc9
          have hbcL := HML.out.box.cell
          have hfrL := HML.out.ts.free
          have hctL := HML.out.ts.cell1 hm0
          refine wpAnyH_take (i := 10) (oi := ?_) (v := ?_) ?_ (by kernel_rfl) (by kernel_rfl) (by kernel_rfl) ?_ ?_ (by assumption) ?_
          rotate_left 2
          · simp only [List.getElem?_toArray, List.getElem?_cons_succ, List.getElem?_cons_zero]; rfl
          · exact fun _ _ _ h => h
          · first
              | (refine Or.inr ⟨?_, ?_⟩ <;> rfl)
              | (refine Or.inl ⟨?_, ?_⟩; · rfl
                 intro w hSw; (try dsimp only at hSw); go_simp; (try with_reducible rfl); done)
          try simp only [Act.put, List.setIfInBounds_toArray, List.set_cons_zero, List.set_cons_succ]
          refine wpAnyH_ready (rs := [11]) (by kernel_rfl) (by simp) ?_
          refine AllReadyH.cons (o := ?_) ?_ (fun K hK => ?_) AllReadyH.nil
          rotate_left 1
          · simp only [List.getElem?_toArray, List.getElem?_cons_succ, List.getElem?_cons_zero]; rfl
          go_simp
          skip
          refine hK.out _ _ ?_ (fun hHeld => ?_)
          · try dsimp only
            go_keep
          clear hK K
          try simp only [Act.put, List.setIfInBounds_toArray, List.set_cons_zero, List.set_cons_succ]
          refine wpAnyH_take (i := 12) (oi := ?_) (v := ?_) ?_ (by kernel_rfl) (by kernel_rfl) (by kernel_rfl) ?_ ?_ (by assumption) ?_
          rotate_left 2
          · simp only [List.getElem?_toArray, List.getElem?_cons_succ, List.getElem?_cons_zero]; rfl
          · exact fun _ _ _ h => h
          · first
              | (refine Or.inr ⟨?_, ?_⟩ <;> rfl)
              | (refine Or.inl ⟨?_, ?_⟩; · rfl
                 intro w hSw; (try dsimp only at hSw); go_simp; (try with_reducible rfl); done)
          try simp only [Act.put, List.setIfInBounds_toArray, List.set_cons_zero, List.set_cons_succ]
          have HMe := Lib.hid (HML.out.setTr 0 (tri y.n j))
          refine wpAnyH_ready (rs := [13]) (by kernel_rfl) (by simp) ?_
          refine AllReadyH.cons (o := ?_) ?_ (fun K hK => ?_) AllReadyH.nil
          rotate_left 1
          · simp only [List.getElem?_toArray, List.getElem?_cons_succ, List.getElem?_cons_zero]; rfl
          go_simp
          refine hK.out _ _ ?_ (fun hHeld => ?_)
          · try dsimp only
            exact ⟨HMe.out.box.cell 0, HMe.out.box.cell 1⟩
          clear hK K
          try simp only [Act.put, List.setIfInBounds_toArray, List.set_cons_zero, List.set_cons_succ]
          refine wpAnyH_done (by kernel_rfl) ?_ _
          have hrc := HMe.out.res.cell
          have hrf := HMe.out.res.free
          have hbc := HMe.out.box.cell
          have n1 : g2 ≠ w.heap.size := by omega
          have n2 : w.heap.size ≠ g2 := by omega
          have n3 : w.heap.size ≠ b3 := by omega
          have n4 : b3 ≠ w.heap.size := by omega
          clear hbcL hfrL hctL
          go_wp2_with fail
          exact bodyPost_ret (v := .agg #[.slice (some ⟨g1, 0, none⟩) y.n c1, .slice (some ⟨g2, 0, none⟩) y.m c2]) (by simp [results, Try.results44, go_sem, hrc]) rfl (HMe.out.done HN.out.1 HN.out.2 (by show y.m ≤ 5; omega) (by omega) _ _)
        · refine AllReadyH.cons (o := ?_) ?_ (fun K hK => ?_) ?_
          rotate_left 1
          · simp only [List.getElem?_toArray, List.getElem?_cons_succ, List.getElem?_cons_zero]; rfl
          · go_simp
            go_at_call 64
            go_must (refine Calls.mono (pickN_any R (m + 3 + k + 1) 3 _ (by omega) (by omega) HM7.out.rd) ?_)
            rintro e w9 ⟨j, rfl, hj, hr9, hg9⟩
            have HM9 := Lib.hid (HM7.out.pick hr9 hg9)
            have hbc9 := HM9.out.box.cell
            have hz9 := HM9.out.box.lt
            have hjI : (j : Int) < 3 := by omega
            clear hr9 hg9 hbc
            refine hK.out _ _ ?_ (fun hHeld => ?_)
            · try dsimp only
              go_keep
            clear hK K
            try simp only [Act.put, List.setIfInBounds_toArray, List.set_cons_zero, List.set_cons_succ]
            refine wpAnyH_ready (rs := [7]) (by kernel_rfl) (by simp) ?_
            refine AllReadyH.cons (o := ?_) ?_ (fun K hK => ?_) AllReadyH.nil
            rotate_left 1
            · simp only [List.getElem?_toArray, List.getElem?_cons_succ, List.getElem?_cons_zero]; rfl
            go_simp
            skip
            refine hK.out _ _ ?_ (fun hHeld => ?_)
            · try dsimp only
              go_keep
            clear hK K
            try simp only [Act.put, List.setIfInBounds_toArray, List.set_cons_zero, List.set_cons_succ]
            have HML : Hid (DlM w (w9.alloc (.cells #[.int .i64 (-1), .int .i64 (2 * (y.n : Int) + 1), .int .i64 1] 3)) R b3 g1 c1 g2 c2 y (m + 3 + k + 1 + 1)) := HM9.out.below (below_all _ _)
            have hjc : (w9.alloc (.cells #[.int .i64 (-1), .int .i64 (2 * (y.n : Int) + 1), .int .i64 1] 3)).cell? ⟨w9.heap.size, j, none⟩ = some (.int .i64 (tri y.n j)) := by rw [box_new]; exact tri_at _ hj
            generalize w9.alloc (.cells #[.int .i64 (-1), .int .i64 (2 * (y.n : Int) + 1), .int .i64 1] 3) = W8 at *
            clear hbc9
            have hbcL := HML.out.box.cell
            have hfrL := HML.out.ts.free
            have hctL := HML.out.ts.cell1 hm0
            refine wpAnyH_take (i := 10) (oi := ?_) (v := ?_) ?_ (by kernel_rfl) (by kernel_rfl) (by kernel_rfl) ?_ ?_ (by assumption) ?_
            rotate_left 2
            · simp only [List.getElem?_toArray, List.getElem?_cons_succ, List.getElem?_cons_zero]; rfl
            · exact fun _ _ _ h => h
            · first
                | (refine Or.inr ⟨?_, ?_⟩ <;> rfl)
                | (refine Or.inl ⟨?_, ?_⟩; · rfl
                   intro w hSw; (try dsimp only at hSw); go_simp; (try with_reducible rfl); done)
            try simp only [Act.put, List.setIfInBounds_toArray, List.set_cons_zero, List.set_cons_succ]
            refine wpAnyH_ready (rs := [11]) (by kernel_rfl) (by simp) ?_
            refine AllReadyH.cons (o := ?_) ?_ (fun K hK => ?_) AllReadyH.nil
            rotate_left 1
            · simp only [List.getElem?_toArray, List.getElem?_cons_succ, List.getElem?_cons_zero]; rfl
            go_simp
            skip
            refine hK.out _ _ ?_ (fun hHeld => ?_)
            · try dsimp only
              go_keep
            clear hK K
            try simp only [Act.put, List.setIfInBounds_toArray, List.set_cons_zero, List.set_cons_succ]
            refine wpAnyH_take (i := 12) (oi := ?_) (v := ?_) ?_ (by kernel_rfl) (by kernel_rfl) (by kernel_rfl) ?_ ?_ (by assumption) ?_
            rotate_left 2
            · simp only [List.getElem?_toArray, List.getElem?_cons_succ, List.getElem?_cons_zero]; rfl
            · exact fun _ _ _ h => h
            · first
                | (refine Or.inr ⟨?_, ?_⟩ <;> rfl)
                | (refine Or.inl ⟨?_, ?_⟩; · rfl
                   intro w hSw; (try dsimp only at hSw); go_simp; (try with_reducible rfl); done)
            try simp only [Act.put, List.setIfInBounds_toArray, List.set_cons_zero, List.set_cons_succ]
            have HMe := Lib.hid (HML.out.setTr 0 (tri y.n j))
            refine wpAnyH_ready (rs := [13]) (by kernel_rfl) (by simp) ?_
            refine AllReadyH.cons (o := ?_) ?_ (fun K hK => ?_) AllReadyH.nil
            rotate_left 1
            · simp only [List.getElem?_toArray, List.getElem?_cons_succ, List.getElem?_cons_zero]; rfl
            go_simp
            refine hK.out _ _ ?_ (fun hHeld => ?_)
            · try dsimp only
              exact ⟨HMe.out.box.cell 0, HMe.out.box.cell 1⟩
            clear hK K
            try simp only [Act.put, List.setIfInBounds_toArray, List.set_cons_zero, List.set_cons_succ]
            refine wpAnyH_done (by kernel_rfl) ?_ _
            have hrc := HMe.out.res.cell
            have hrf := HMe.out.res.free
            have hbc := HMe.out.box.cell
            have n1 : g2 ≠ w.heap.size := by omega
            have n2 : w.heap.size ≠ g2 := by omega
            have n3 : w.heap.size ≠ b3 := by omega
            have n4 : b3 ≠ w.heap.size := by omega
            clear hbcL hfrL hctL
            go_wp2_with fail
            exact bodyPost_ret (v := .agg #[.slice (some ⟨g1, 0, none⟩) y.n c1, .slice (some ⟨g2, 0, none⟩) y.m c2]) (by simp [results, Try.results44, go_sem, hrc]) rfl (HMe.out.done HN.out.1 HN.out.2 (by show y.m ≤ 5; omega) (by omega) _ _)
          · exact AllReadyH.nil
      have hv2' : ((v : Int) == 2) = false := by simp; omega
      clear hv2
      have hrc := HM6.out.res.cell
      have hrf := HM6.out.res.free
      go_wp2_with fail
      exact bodyPost_ret (v := .agg #[.slice (some ⟨g1, 0, none⟩) y.n c1, .slice (some ⟨g2, 0, none⟩) y.m c2]) (by simp [results, Try.results44, go_sem, hrc]) rfl (HM6.out.done HN.out.1 HN.out.2 (by have := HC.out; omega) (by omega) _ _)
end Go.Proofs.Ytbachpfgakjncaa
namespace Go.Proofs.Ytbachpfgakjncaa
open Go.RowKit

/-- a move saves at most one -/
theorem lef_one {x : Ln} {s : Int} {l : ByteArray} (hv : vldL x = true) (ho : mvOk x s l = true) : lefS x x.n ≤ lefS (mvTo x s l) x.n + 1 := by
  obtain ⟨k, c, rfl, hk, rfl, hJ, hJ5, _⟩ := mv_is ho
  obtain ⟨h1, h2⟩ := lefT_mv ho hk
  have e1 := lefS_T hv x.n (Nat.le_refl _)
  have e2 : lefS (mvTo x k (chr c)) x.n = lefT (mvTo x k (chr c)) x.n := lefS_T (vld_mv hv ho) x.n (Nat.le_refl _)
  rw [e1, e2]
  rw [hJ] at hJ5 h1 h2
  suffices h : lefK (sk x k) (tk x k) ≤ lefK (nx (sk x k) c.toNat) (tk (mvTo x k (chr c)) k) + 1 by omega
  generalize tk (mvTo x k (chr c)) k = t' at *
  generalize tk x k = t at *
  rcases nx_cases hJ5 with ⟨a, b, d⟩ | ⟨a, b, d⟩ | ⟨a, b, d⟩ | ⟨a, b, d⟩ | ⟨a, b, d⟩ | ⟨a, b, d⟩ | ⟨a, b, d⟩
  all_goals
    rw [d] at h2 ⊢
    rw [a] at h2 ⊢
    simp only [lefK]
    (try split) <;> (try split) <;> omega
/-- a run of moves -/
def runL : Ln → List (Int × ByteArray) → Option Ln
  | x, [] => some x
  | x, z :: ms => (stepO x z.1 z.2).bind fun y => runL y ms
theorem runL_app : ∀ (a b : List (Int × ByteArray)) (x : Ln), runL x (a ++ b) = (runL x a).bind fun y => runL y b
  | [], b, x => rfl
  | z :: a, b, x => by
    show (stepO x z.1 z.2).bind (fun y => runL y (a ++ b)) = ((stepO x z.1 z.2).bind fun y => runL y a).bind fun y => runL y b
    cases stepO x z.1 z.2 with
    | none => rfl
    | some y => exact runL_app a b y
theorem runO_runL (x : Ln) (ms : List (Int × ByteArray)) : ∀ k, k ≤ ms.length → runO x (mvM ms) (mvS ms) k = runL x (ms.take k)
  | 0, _ => rfl
  | k + 1, h => by
    have hk : k < ms.length := by omega
    rw [List.take_succ_eq_append_getElem hk, runL_app]
    show (runO x (mvM ms) (mvS ms) k).bind _ = _
    rw [runO_runL x ms k (by omega)]
    congr 1
    funext y
    show stepO y (mvM ms k) (mvS ms k) = (stepO y ms[k].1 ms[k].2).bind fun y => some y
    unfold mvM mvS
    rw [List.getElem?_eq_getElem hk]
    show stepO y ms[k].1 ms[k].2 = _
    cases stepO y ms[k].1 ms[k].2 <;> rfl
theorem runO_all (x : Ln) (ms : List (Int × ByteArray)) : runO x (mvM ms) (mvS ms) ms.length = runL x ms := by
  rw [runO_runL x ms _ (Nat.le_refl _), List.take_length]
theorem near_step {x : Ln} {y : Int × ByteArray} (hv : vldL x = true) (h : nearM x = some y) : stepO x y.1 y.2 = some (mvTo x y.1 y.2) ∧ vldL (mvTo x y.1 y.2) = true ∧ lefS (mvTo x y.1 y.2) (mvTo x y.1 y.2).n + 1 = lefS x x.n := by
  obtain ⟨h1, h2⟩ := near_less h
  have h3 := lef_one hv h1
  refine ⟨by unfold stepO; rw [h1]; rfl, vld_mv hv h1, ?_⟩
  have e : (mvTo x y.1 y.2).n = x.n := rfl
  rw [e] at h2 ⊢
  omega
/-- the run of LineFinish's moves: what is behind k of them -/
theorem fin_run : ∀ (q : Nat) (x : Ln), vldL x = true → lefS x x.n = q → (finX x).length = q ∧ ∀ k, k ≤ q → ∃ y, runL x ((finX x).take k) = some y ∧ vldL y = true ∧ lefS y y.n = ((q - k : Nat) : Int) ∧ finX y = (finX x).drop k ∧ y.n = x.n ∧ y.m = x.m
  | 0, x, hv, h => by
    have e : finX x = [] := finX_done (by omega)
    refine ⟨by rw [e]; rfl, fun k hk => ?_⟩
    obtain rfl : k = 0 := by omega
    exact ⟨x, by rw [e]; rfl, hv, by rw [h], by rw [e]; rfl, rfl, rfl⟩
  | q + 1, x, hv, h => by
    obtain ⟨z, hz, _⟩ := nearM_some hv (by omega)
    obtain ⟨h1, h2, h3⟩ := near_step hv hz
    have ih := fin_run q (mvTo x z.1 z.2) h2 (by omega)
    have e : finX x = z :: finX (mvTo x z.1 z.2) := finX_step (by omega) hz
    refine ⟨by rw [e, List.length_cons, ih.1], fun k hk => ?_⟩
    match k with
    | 0 => exact ⟨x, by rw [List.take_zero]; rfl, hv, by rw [h]; simp, by rw [List.drop_zero], rfl, rfl⟩
    | k + 1 =>
      obtain ⟨y, g1, g2, g3, g4, g5, g6⟩ := ih.2 k (by omega)
      refine ⟨y, ?_, g2, by rw [g3]; congr 1 <;> omega, by rw [e, List.drop_succ_cons]; exact g4, g5, g6⟩
      rw [e, List.take_succ_cons]
      show (stepO x z.1 z.2).bind _ = _
      rw [h1]
      exact g1
theorem lefS_nn (x : Ln) : ∃ q : Nat, lefS x x.n = q := ⟨(lefS x x.n).toNat, by have := (lefS_bd x x.n).1; omega⟩
theorem lefT_zero {x : Ln} : ∀ n, lefT x n = 0 → ∀ k, k < n → lefK (sk x k) (tk x k) = 0
  | 0, _, k, hk => by omega
  | n + 1, h, k, hk => by
    have h1 := lefK_pos (sk x n) (tk x n)
    have h2 : 0 ≤ lefT x n := by
      have : ∀ n, 0 ≤ lefT x n := fun n => by
        induction n with
        | zero => exact Int.le_refl _
        | succ n ih => have := lefK_pos (sk x n) (tk x n); simp only [lefT]; omega
      exact this n
    simp only [lefT] at h
    rcases Nat.lt_or_ge k n with h3 | h3
    · exact lefT_zero n (by omega) k h3
    · obtain rfl : k = n := by omega
      omega
theorem lefT_nil {x : Ln} : ∀ n, (∀ k, k < n → lefK (sk x k) (tk x k) = 0) → lefT x n = 0
  | 0, _ => rfl
  | n + 1, h => by
    simp only [lefT]
    rw [lefT_nil n (fun k hk => h k (by omega)), h n (by omega)]
    rfl
theorem lefK_zero {s t : Nat} (h : lefK s t = 0) : s = 0 ∧ t = 0 := by
  unfold lefK at h
  split at h <;> (try split at h) <;> omega
theorem nrm_sk {x : Ln} {k : Nat} (h : nrmB x k = true) : sk x k = 0 := by
  unfold nrmB at h
  simp only [Bool.and_eq_true, decide_eq_true_eq, Bool.not_eq_true'] at h
  obtain ⟨h1, h2, h3⟩ := h
  unfold sk
  rw [h1, h2, h3]
  rfl
theorem leA_none {f : Nat → Int} {p : Int} : ∀ m, (∀ i, i < m → ¬ f i ≤ p) → leA f p m = 0
  | 0, _ => rfl
  | m + 1, h => by
    simp only [leA]
    rw [leA_none m (fun i hi => h i (by omega)), if_neg (h m (by omega))]
/-- a valid line is done when no move is left -/
theorem done_left {x : Ln} (hv : vldL x = true) : donL x = decide (lefS x x.n = 0) := by
  have hb := vldL_true hv
  rw [donL_dn4, hv, Bool.true_and, lefS_T hv x.n (Nat.le_refl _), Bool.eq_iff_iff, decide_eq_true_eq]
  unfold dn4
  rw [Bool.and_eq_true, allB_true, allB_true]
  unfold atEnd
  simp only [decide_eq_true_eq]
  constructor
  · rintro ⟨h1, h2⟩
    refine lefT_nil x.n (fun k hk => ?_)
    have e : tk x k = 0 := leA_none x.m (fun i hi => by rw [h2 i hi]; omega)
    rw [nrm_sk (h1 k hk), e]
    rfl
  · intro h
    have hz := lefT_zero x.n h
    refine ⟨fun k hk => ?_, fun i hi => ?_⟩
    · have h0 := (lefK_zero (hz k hk)).1
      have hs := sk_N hv hk
      have hi := sk_I hv hk
      rw [h0] at hs hi
      unfold nrmB
      rw [hs.1, hs.2, hi]
      rfl
    · have ht := (trOk_true.1 (hb.2.2.2.2.1 i hi)).1
      have hn1 : 0 < x.n := by omega
      have h0 := lefK_zero (hz (x.n - 1) (by omega))
      have h1 : ¬ x.T i ≤ 2 * ((x.n - 1 : Nat) : Int) := fun hle => by
        have := leA_pos hle x.m hi
        have h2 : leA x.T (2 * ((x.n - 1 : Nat) : Int)) x.m = 0 := h0.2
        omega
      have h2 : x.T i ≠ 2 * ((x.n - 1 : Nat) : Int) + 1 := fun he => by
        have h3 := cntA_pos he x.m hi
        have h4 := cnOk_true.1 (hb.2.2.2.2.2 (x.n - 1) (by omega))
        rw [sk_I hv (by omega), h0.1] at h4
        rw [h4] at h3
        simp at h3
      omega
theorem lefO_v {x : Ln} (hv : vldL x = true) : lefO x = lefS x x.n := if_pos hv
end Go.Proofs.Ytbachpfgakjncaa
namespace Go.Proofs.Ytbachpfgakjncaa
open Go.RowKit

/-- a drawn line, all else as it was -/
def DrL (w : World) (e : Ending) (w' : World) : Prop :=
  ∃ v x, e = .returned v ∧ LnO w.heap.size w' v x ∧ 1 ≤ x.n ∧ x.n ≤ 4 ∧ x.m ≤ 5 ∧ Below w.heap.size w w'
set_option maxHeartbeats 1000000 in
theorem drawLMoves_any (ao : Option Addr) (n c : Nat) (w : World) (hnc : n ≤ c) (hn : n ≤ 9223372036854775807) (hB : BSl w ao n) :
    Calls Try.prog 11 #[.slice ao n c] w (DrL w) := by
  have hbb : ∀ a, Below w.heap.size w (w.alloc a) := fun a => below_all w a
  have HBS := Lib.hid (fun a => hB.keep (hbb a))
  have HBB := Lib.hid hbb
  clear hB hbb
  go_enter Try.func11, Try.ntmps11
  go_wp2_with fail
  refine (open_any ao n c _ hn hnc (HBS.out _)).mono ?_
  rintro e w1 ⟨R, rfl, hR, hr1, hb1⟩
  rw [World.size_alloc] at hR hb1
  have hbx := Lib.hid ((Bx.new w _ _).below hb1 (by omega))
  have HB1 := Lib.hid hb1
  have HR1 := Lib.hid hr1
  have hz1 : w.heap.size + 1 ≤ w1.heap.size := by have := hb1.size; simpa using this
  clear hb1 hr1
  go_wp2_with fail
  refine (l92Line_any R 0 _ (by omega) HR1.out).mono ?_
  rintro e w2 ⟨v, x, rfl, hl, hx1, hx2, hx3, hr2, hg2⟩
  have HL := Lib.hid hl
  have HX : Hid (1 ≤ x.n ∧ x.n ≤ 4 ∧ x.m ≤ 5) := ⟨hx1, hx2, hx3⟩
  have hb2 := (HBB.out _).trans (HB1.out.mono (by omega))
  have HB2 := Lib.hid (hb2.trans (below_of_grown hg2 (by omega) (by omega)))
  have hbx2 := hbx.out.kept hg2 (by omega)
  have hxc := hbx2.cell
  have hxf := hbx2.free
  obtain ⟨g1, c1, g2, c2, rfl, _⟩ := hl
  clear hg2 hr2 hx1 hx2 hx3 hb2 hbx2
  go_wp2_with fail
  exact bodyPost_ret (v := .agg #[.slice (some ⟨g1, 0, none⟩) x.n c1, .slice (some ⟨g2, 0, none⟩) x.m c2]) (by simp [results, Try.results11, go_sem, hxc]) rfl ⟨_, x, rfl, ((HL.out.setOther (by omega) _).setOther (by omega) _).mono (by omega), HX.out.1, HX.out.2.1, HX.out.2.2, (HB2.out.setCell (by dsimp only; omega) _).setCell (by dsimp only; omega) _⟩

set_option maxHeartbeats 1000000 in
theorem drawLLeft_any (ao : Option Addr) (n c : Nat) (w : World) (hnc : n ≤ c) (hn : n ≤ 9223372036854775807) (hB : BSl w ao n) :
    Calls Try.prog 31 #[.slice ao n c] w (DrL w) := by
  have hbb : ∀ a, Below w.heap.size w (w.alloc a) := fun a => below_all w a
  have HBS := Lib.hid (fun a => hB.keep (hbb a))
  have HBB := Lib.hid hbb
  clear hB hbb
  go_enter Try.func31, Try.ntmps31
  go_wp2_with fail
  refine (open_any ao n c _ hn hnc (HBS.out _)).mono ?_
  rintro e w1 ⟨R, rfl, hR, hr1, hb1⟩
  rw [World.size_alloc] at hR hb1
  have hbx := Lib.hid ((Bx.new w _ _).below hb1 (by omega))
  have HB1 := Lib.hid hb1
  have HR1 := Lib.hid hr1
  have hz1 : w.heap.size + 1 ≤ w1.heap.size := by have := hb1.size; simpa using this
  clear hb1 hr1
  go_wp2_with fail
  refine (l92Line_any R 0 _ (by omega) HR1.out).mono ?_
  rintro e w2 ⟨v, x, rfl, hl, hx1, hx2, hx3, hr2, hg2⟩
  have HL := Lib.hid hl
  have HX : Hid (1 ≤ x.n ∧ x.n ≤ 4 ∧ x.m ≤ 5) := ⟨hx1, hx2, hx3⟩
  have hb2 := (HBB.out _).trans (HB1.out.mono (by omega))
  have HB2 := Lib.hid (hb2.trans (below_of_grown hg2 (by omega) (by omega)))
  have hbx2 := hbx.out.kept hg2 (by omega)
  have hxc := hbx2.cell
  have hxf := hbx2.free
  obtain ⟨g1, c1, g2, c2, rfl, _⟩ := hl
  clear hg2 hr2 hx1 hx2 hx3 hb2 hbx2
  go_wp2_with fail
  exact bodyPost_ret (v := .agg #[.slice (some ⟨g1, 0, none⟩) x.n c1, .slice (some ⟨g2, 0, none⟩) x.m c2]) (by simp [results, Try.results31, go_sem, hxc]) rfl ⟨_, x, rfl, ((HL.out.setOther (by omega) _).setOther (by omega) _).mono (by omega), HX.out.1, HX.out.2.1, HX.out.2.2, (HB2.out.setCell (by dsimp only; omega) _).setCell (by dsimp only; omega) _⟩

set_option maxHeartbeats 1000000 in
theorem drawLFinish_any (ao : Option Addr) (n c : Nat) (w : World) (hnc : n ≤ c) (hn : n ≤ 9223372036854775807) (hB : BSl w ao n) :
    Calls Try.prog 39 #[.slice ao n c] w (DrL w) := by
  have hbb : ∀ a, Below w.heap.size w (w.alloc a) := fun a => below_all w a
  have HBS := Lib.hid (fun a => hB.keep (hbb a))
  have HBB := Lib.hid hbb
  clear hB hbb
  go_enter Try.func39, Try.ntmps39
  go_wp2_with fail
  refine (open_any ao n c _ hn hnc (HBS.out _)).mono ?_
  rintro e w1 ⟨R, rfl, hR, hr1, hb1⟩
  rw [World.size_alloc] at hR hb1
  have hbx := Lib.hid ((Bx.new w _ _).below hb1 (by omega))
  have HB1 := Lib.hid hb1
  have HR1 := Lib.hid hr1
  have hz1 : w.heap.size + 1 ≤ w1.heap.size := by have := hb1.size; simpa using this
  clear hb1 hr1
  go_wp2_with fail
  refine (l92Line_any R 0 _ (by omega) HR1.out).mono ?_
  rintro e w2 ⟨v, x, rfl, hl, hx1, hx2, hx3, hr2, hg2⟩
  have HL := Lib.hid hl
  have HX : Hid (1 ≤ x.n ∧ x.n ≤ 4 ∧ x.m ≤ 5) := ⟨hx1, hx2, hx3⟩
  have hb2 := (HBB.out _).trans (HB1.out.mono (by omega))
  have HB2 := Lib.hid (hb2.trans (below_of_grown hg2 (by omega) (by omega)))
  have hbx2 := hbx.out.kept hg2 (by omega)
  have hxc := hbx2.cell
  have hxf := hbx2.free
  obtain ⟨g1, c1, g2, c2, rfl, _⟩ := hl
  clear hg2 hr2 hx1 hx2 hx3 hb2 hbx2
  go_wp2_with fail
  exact bodyPost_ret (v := .agg #[.slice (some ⟨g1, 0, none⟩) x.n c1, .slice (some ⟨g2, 0, none⟩) x.m c2]) (by simp [results, Try.results39, go_sem, hxc]) rfl ⟨_, x, rfl, ((HL.out.setOther (by omega) _).setOther (by omega) _).mono (by omega), HX.out.1, HX.out.2.1, HX.out.2.2, (HB2.out.setCell (by dsimp only; omega) _).setCell (by dsimp only; omega) _⟩

set_option maxHeartbeats 1000000 in
theorem drawLNew_any (ao : Option Addr) (n c : Nat) (w : World) (hnc : n ≤ c) (hn : n ≤ 9223372036854775807) (hB : BSl w ao n) :
    Calls Try.prog 25 #[.slice ao n c] w fun e w' => ∃ a t : Nat, e = .returned (.tuple #[.int .i64 a, .int .i64 ((t : Int) - 1)]) ∧ a < 7 ∧ t < 8 ∧ Below w.heap.size w w' := by
  have HBS := Lib.hid hB
  clear hB
  go_enter Try.func25, Try.ntmps25
  go_wp2_with fail
  refine (open_any ao n c _ hn hnc HBS.out).mono ?_
  rintro e w1 ⟨R, rfl, hR, hr1, hb1⟩
  have HB1 := Lib.hid hb1
  have HR1 := Lib.hid hr1
  have hz1 : w.heap.size ≤ w1.heap.size := hb1.size
  clear hb1 hr1
  go_wp2_with fail
  refine (pickN_any R 0 7 _ (by omega) (by omega) HR1.out).mono ?_
  rintro e w2 ⟨a, rfl, ha, hr2, hg2⟩
  have HR2 := Lib.hid hr2
  have HB2 := Lib.hid (HB1.out.trans (below_of_grown hg2 (by omega) (by omega)))
  have hz2 : w1.heap.size ≤ w2.heap.size := hg2.size
  clear hr2 hg2
  go_wp2_with fail
  refine (pickN_any R (0 + 1) 8 _ (by omega) (by omega) HR2.out).mono ?_
  rintro e w3 ⟨t, rfl, ht, hr3, hg3⟩
  have HB3 := Lib.hid (HB2.out.trans (below_of_grown hg3 (by omega) (by omega)))
  clear hr3 hg3
  have hw : IntKind.i64.wrap ((t : Int) - 1) = (t : Int) - 1 := IntWalk.i64_in _ (by omega)
  go_wp2_with fail
  go_ret2
  exact ⟨a, t, rfl, ha, ht, HB3.out⟩

set_option linter.unusedSimpArgs false in
theorem sameMoves_same (b off n c b' off' c' : Nat) (M : Nat → Int) (L : Nat → ByteArray) (w : World) (hn : n ≤ 1000000000000) (hc : MvsC w b off n M L) (hd : MvsC w b' off' n M L) :
    Calls Try.prog 14 #[.slice (some ⟨b, off, none⟩) n c, .slice (some ⟨b', off', none⟩) n c'] w fun e w' => e = .returned (.bool true) ∧ Below w.heap.size w w' := by
  have HC : Hid (∀ w', Below w.heap.size w w' → MvsC w' b off n M L) := fun w' hb => hc.keep hb
  have HD : Hid (∀ w', Below w.heap.size w w' → MvsC w' b' off' n M L) := fun w' hb => hd.keep hb
  clear hc hd
  go_enter Try.func14, Try.ntmps14
  go_wp2_with fail
  go_loopw [5] (fun i wr => ∃ k : Nat, k ≤ n ∧ i = .int .i64 k ∧ Hid (Below w.heap.size w wr)) (fun i _ => n - (intOf i).toNat)
  case atStart => exact ⟨0, Nat.zero_le _, rfl, Lib.hid (Below.refl _ _)⟩
  case round =>
    obtain ⟨k, hk, rfl, HB⟩ := hrel
    by_cases hlt : k < n
    · have hck := (HC.out _ HB.out).at k hlt
      have hdk := (HD.out _ HB.out).at k hlt
      generalize M k = s at *
      generalize L k = l at *
      go_wp2_with fail
      refine wp_region_held_drew (S := (fun w' => (w'.cell? ⟨b, off + k * 2, none⟩ = some (.int .i64 s) ∧ w'.cell? ⟨b, off + k * 2 + 1, none⟩ = some (.string l)) ∧ (w'.cell? ⟨b', off' + k * 2, none⟩ = some (.int .i64 s) ∧ w'.cell? ⟨b', off' + k * 2 + 1, none⟩ = some (.string l)))) (by kernel_rfl) ?_ (fun hHeld => ?_)
      · try dsimp only
        go_keep
      refine wpAnyH_take (i := 0) (oi := ?_) (v := ?_) ?_ (by kernel_rfl) (by kernel_rfl) (by kernel_rfl) ?_ ?_ (by assumption) ?_
      rotate_left 2
      · simp only [List.getElem?_toArray, List.getElem?_cons_succ, List.getElem?_cons_zero]; rfl
      · exact fun _ _ _ h => h
      · first
          | (refine Or.inr ⟨?_, ?_⟩ <;> rfl)
          | (refine Or.inl ⟨?_, ?_⟩; · rfl
             intro w hSw; (try dsimp only at hSw); go_simp; (try with_reducible rfl); done)
      try simp only [Act.put, List.setIfInBounds_toArray, List.set_cons_zero, List.set_cons_succ]
      refine wpAnyH_take (i := 1) (oi := ?_) (v := ?_) ?_ (by kernel_rfl) (by kernel_rfl) (by kernel_rfl) ?_ ?_ (by assumption) ?_
      rotate_left 2
      · simp only [List.getElem?_toArray, List.getElem?_cons_succ, List.getElem?_cons_zero]; rfl
      · exact fun _ _ _ h => h
      · first
          | (refine Or.inr ⟨?_, ?_⟩ <;> rfl)
          | (refine Or.inl ⟨?_, ?_⟩; · rfl
             intro w hSw; (try dsimp only at hSw); go_simp; (try with_reducible rfl); done)
      try simp only [Act.put, List.setIfInBounds_toArray, List.set_cons_zero, List.set_cons_succ]
      refine wpAnyH_take (i := 2) (oi := ?_) (v := ?_) ?_ (by kernel_rfl) (by kernel_rfl) (by kernel_rfl) ?_ ?_ (by assumption) ?_
      rotate_left 2
      · simp only [List.getElem?_toArray, List.getElem?_cons_succ, List.getElem?_cons_zero]; rfl
      · exact fun _ _ _ h => h
      · first
          | (refine Or.inr ⟨?_, ?_⟩ <;> rfl)
          | (refine Or.inl ⟨?_, ?_⟩; · rfl
             intro w hSw; (try dsimp only at hSw); go_simp; (try with_reducible rfl); done)
      try simp only [Act.put, List.setIfInBounds_toArray, List.set_cons_zero, List.set_cons_succ]
      refine wpAnyH_take (i := 3) (oi := ?_) (v := ?_) ?_ (by kernel_rfl) (by kernel_rfl) (by kernel_rfl) ?_ ?_ (by assumption) ?_
      rotate_left 2
      · simp only [List.getElem?_toArray, List.getElem?_cons_succ, List.getElem?_cons_zero]; rfl
      · exact fun _ _ _ h => h
      · first
          | (refine Or.inr ⟨?_, ?_⟩ <;> rfl)
          | (refine Or.inl ⟨?_, ?_⟩; · rfl
             intro w hSw; (try dsimp only at hSw); go_simp; (try with_reducible rfl); done)
      try simp only [Act.put, List.setIfInBounds_toArray, List.set_cons_zero, List.set_cons_succ]
      refine wpAnyH_take (i := 4) (oi := ?_) (v := ?_) ?_ (by kernel_rfl) (by kernel_rfl) (by kernel_rfl) ?_ ?_ (by assumption) ?_
      rotate_left 2
      · simp only [List.getElem?_toArray, List.getElem?_cons_succ, List.getElem?_cons_zero]; rfl
      · exact fun _ _ _ h => h
      · first
          | (refine Or.inr ⟨?_, ?_⟩ <;> rfl)
          | (refine Or.inl ⟨?_, ?_⟩; · rfl
             intro w hSw; (try dsimp only at hSw); go_simp; (try with_reducible rfl); done)
      try simp only [Act.put, List.setIfInBounds_toArray, List.set_cons_zero, List.set_cons_succ]
      refine wpAnyH_take (i := 5) (oi := ?_) (v := ?_) ?_ (by kernel_rfl) (by kernel_rfl) (by kernel_rfl) ?_ ?_ (by assumption) ?_
      rotate_left 2
      · simp only [List.getElem?_toArray, List.getElem?_cons_succ, List.getElem?_cons_zero]; rfl
      · exact fun _ _ _ h => h
      · first
          | (refine Or.inr ⟨?_, ?_⟩ <;> rfl)
          | (refine Or.inl ⟨?_, ?_⟩; · rfl
             intro w hSw; (try dsimp only at hSw); go_simp; (try with_reducible rfl); done)
      try simp only [Act.put, List.setIfInBounds_toArray, List.set_cons_zero, List.set_cons_succ]
      refine wpAnyH_take (i := 6) (oi := ?_) (v := ?_) ?_ (by kernel_rfl) (by kernel_rfl) (by kernel_rfl) ?_ ?_ (by assumption) ?_
      rotate_left 2
      · simp only [List.getElem?_toArray, List.getElem?_cons_succ, List.getElem?_cons_zero]; rfl
      · exact fun _ _ _ h => h
      · first
          | (refine Or.inr ⟨?_, ?_⟩ <;> rfl)
          | (refine Or.inl ⟨?_, ?_⟩; · rfl
             intro w hSw; (try dsimp only at hSw); go_simp; (try with_reducible rfl); done)
      try simp only [Act.put, List.setIfInBounds_toArray, List.set_cons_zero, List.set_cons_succ]
      refine wpAnyH_take (i := 7) (oi := ?_) (v := ?_) ?_ (by kernel_rfl) (by kernel_rfl) (by kernel_rfl) ?_ ?_ (by assumption) ?_
      rotate_left 2
      · simp only [List.getElem?_toArray, List.getElem?_cons_succ, List.getElem?_cons_zero]; rfl
      · exact fun _ _ _ h => h
      · first
          | (refine Or.inr ⟨?_, ?_⟩ <;> rfl)
          | (refine Or.inl ⟨?_, ?_⟩; · rfl
             intro w hSw; (try dsimp only at hSw); go_simp; (try with_reducible rfl); done)
      try simp only [Act.put, List.setIfInBounds_toArray, List.set_cons_zero, List.set_cons_succ]
      refine wpAnyH_take (i := 8) (oi := ?_) (v := ?_) ?_ (by kernel_rfl) (by kernel_rfl) (by kernel_rfl) ?_ ?_ (by assumption) ?_
      rotate_left 2
      · simp only [List.getElem?_toArray, List.getElem?_cons_succ, List.getElem?_cons_zero]; rfl
      · exact fun _ _ _ h => h
      · first
          | (refine Or.inr ⟨?_, ?_⟩ <;> rfl)
          | (refine Or.inl ⟨?_, ?_⟩; · rfl
             intro w hSw; (try dsimp only at hSw); go_simp; (try with_reducible rfl); done)
      try simp only [Act.put, List.setIfInBounds_toArray, List.set_cons_zero, List.set_cons_succ]
      refine wpAnyH_done (by kernel_rfl) ?_ _
      go_wp2_with fail
      go_roundw
      case rel => exact ⟨k + 1, by omega, by go_num, HB.out.drew⟩
      case measure => simp [intOf]; omega
    · obtain e : k = n := by omega
      subst e
      go_wp2_with fail
      go_ret
      exact ⟨rfl, HB.out⟩
theorem sameMoves_zero (ao ao' : Option Addr) (c c' : Nat) (w : World) :
    Calls Try.prog 14 #[.slice ao 0 c, .slice ao' 0 c'] w fun e w' => e = .returned (.bool true) ∧ Below w.heap.size w w' := by
  go_enter Try.func14, Try.ntmps14
  go_wp2_with fail
  go_loop [5] (fun i => i = .int .i64 0) (fun _ => 0)
  case atStart => rfl
  case round =>
    subst hrel
    go_wp2_with fail
    go_ret
    exact ⟨rfl, Below.refl _ _⟩
theorem sameMoves_ML (v u : Value) (n : Nat) (M : Nat → Int) (L : Nat → ByteArray) (w : World) (hn : n ≤ 1000000000000) (hv : MLs w v n M L) (hu : MLs w u n M L) :
    Calls Try.prog 14 #[v, u] w fun e w' => e = .returned (.bool true) ∧ Below w.heap.size w w' := by
  rcases Nat.eq_zero_or_pos n with h0 | h0
  · subst h0
    obtain ⟨ao, c, rfl⟩ := hv.shape
    obtain ⟨ao', c', rfl⟩ := hu.shape
    exact sameMoves_zero ao ao' c c' w
  · rcases hv with ⟨b, o, c, rfl, h⟩ | ⟨h, _⟩
    · rcases hu with ⟨b', o', c', rfl, h'⟩ | ⟨h', _⟩
      · exact sameMoves_same b o n c b' o' c' M L w hn h h'
      · omega
    · omega
set_option linter.unusedSimpArgs false in
set_option maxHeartbeats 1000000 in
theorem sameLine_same (bb bo cb tb tu ct bb' bo' cb' tb' tu' ct' : Nat) (x : Ln) (w : World) (hn : x.n ≤ 1000000000000) (hm : x.m ≤ 1000000000000) (hbk : BkC w bb bo x.n x.N x.I x.O) (hic : IC w tb tu x.m x.T) (hbk' : BkC w bb' bo' x.n x.N x.I x.O) (hic' : IC w tb' tu' x.m x.T) :
    Calls Try.prog 17 #[.agg #[.slice (some ⟨bb, bo, none⟩) x.n cb, .slice (some ⟨tb, tu, none⟩) x.m ct], .agg #[.slice (some ⟨bb', bo', none⟩) x.n cb', .slice (some ⟨tb', tu', none⟩) x.m ct']] w fun e w' => e = .returned (.bool true) ∧ Below w.heap.size w w' := by
  have HB0 : Hid (Below w.heap.size w ((w.alloc (.cells #[.slice (some ⟨bb, bo, none⟩) x.n cb, .slice (some ⟨tb, tu, none⟩) x.m ct] 26)).alloc (.cells #[.slice (some ⟨bb', bo', none⟩) x.n cb', .slice (some ⟨tb', tu', none⟩) x.m ct'] 26))) := (below_all _ _).alloc (by simp) _
  have HA0 : Hid (Bx ((w.alloc (.cells #[.slice (some ⟨bb, bo, none⟩) x.n cb, .slice (some ⟨tb, tu, none⟩) x.m ct] 26)).alloc (.cells #[.slice (some ⟨bb', bo', none⟩) x.n cb', .slice (some ⟨tb', tu', none⟩) x.m ct'] 26)) w.heap.size 26 #[.slice (some ⟨bb, bo, none⟩) x.n cb, .slice (some ⟨tb, tu, none⟩) x.m ct]) := (Bx.new _ _ _).alloc _
  have HC0 : Hid (Bx ((w.alloc (.cells #[.slice (some ⟨bb, bo, none⟩) x.n cb, .slice (some ⟨tb, tu, none⟩) x.m ct] 26)).alloc (.cells #[.slice (some ⟨bb', bo', none⟩) x.n cb', .slice (some ⟨tb', tu', none⟩) x.m ct'] 26)) (w.heap.size + 1) 26 #[.slice (some ⟨bb', bo', none⟩) x.n cb', .slice (some ⟨tb', tu', none⟩) x.m ct']) := Bx.newAt (by simp)
  have HK : Hid (∀ w', Below w.heap.size w w' → BkC w' bb bo x.n x.N x.I x.O) := fun w' hb => hbk.keep hb
  have HK' : Hid (∀ w', Below w.heap.size w w' → BkC w' bb' bo' x.n x.N x.I x.O) := fun w' hb => hbk'.keep hb
  have HSI : Hid (∀ w', Below w.heap.size w w' → Calls Try.prog 53 #[.slice (some ⟨tb, tu, none⟩) x.m ct, .slice (some ⟨tb', tu', none⟩) x.m ct'] w' fun e w2 => e = .returned (.bool true) ∧ Below w'.heap.size w' w2) := fun w' hb =>
    (sameInts_any tb tu x.m ct tb' tu' x.m ct' x.T x.T w' (by omega) (by omega) (hic.keep hb) (hic'.keep hb)).mono fun e w2 ⟨h1, h2⟩ => ⟨by rw [h1, eqSl_true.2 ⟨rfl, fun _ _ => rfl⟩], below_dr h2 _⟩
  clear hbk hic hbk' hic'
  go_enter Try.func17, Try.ntmps17
  have hac := HA0.out.cell
  have hcc := HC0.out.cell
  go_wp2_with fail
  generalize (w.alloc (.cells #[.slice (some ⟨bb, bo, none⟩) x.n cb, .slice (some ⟨tb, tu, none⟩) x.m ct] 26)).alloc (.cells #[.slice (some ⟨bb', bo', none⟩) x.n cb', .slice (some ⟨tb', tu', none⟩) x.m ct'] 26) = W0 at *
  refine (HSI.out _ HB0.out).mono ?_
  rintro e w1 ⟨rfl, hb1⟩
  have HA1 := Lib.hid (HA0.out.below hb1 HA0.out.lt)
  have HC1 := Lib.hid (HC0.out.below hb1 HC0.out.lt)
  have HB1 := Lib.hid (HB0.out.trans (hb1.mono HB0.out.size))
  clear hb1 hac hcc
  have hac := HA1.out.cell
  have hcc := HC1.out.cell
  go_wp2_with fail
  clear hac hcc
  go_loopw [5] (fun i wr => ∃ k : Nat, k ≤ x.n ∧ i = .int .i64 k ∧ Hid (Below w1.heap.size w1 wr)) (fun i _ => x.n - (intOf i).toNat)
  case atStart => exact ⟨0, Nat.zero_le _, rfl, Below.refl _ _⟩
  case round =>
    obtain ⟨k, hk, rfl, HB⟩ := hrel
    have hac := (HA1.out.below HB.out HA1.out.lt).cell
    have hcc := (HC1.out.below HB.out HC1.out.lt).cell
    have HBw := Lib.hid (HB1.out.trans (HB.out.mono HB1.out.size))
    by_cases hlt : k < x.n
    · have hck := (HK.out _ HBw.out).at k hlt
      have hdk := (HK'.out _ HBw.out).at k hlt
      generalize x.N k = xn at *
      generalize x.I k = xi at *
      generalize x.O k = xo at *
      go_wp2_with fail
      refine wp_region_held_drew (S := (fun w' => (w'.cell? ⟨w.heap.size, 0, none⟩ = some (.slice (some ⟨bb, bo, none⟩) x.n cb) ∧ w'.cell? ⟨w.heap.size + 1, 0, none⟩ = some (.slice (some ⟨bb', bo', none⟩) x.n cb')) ∧ (w'.cell? ⟨bb, bo + k * 3, none⟩ = some (.int .i64 xn) ∧ w'.cell? ⟨bb, bo + k * 3 + 1, none⟩ = some (.bool xi) ∧ w'.cell? ⟨bb, bo + k * 3 + 2, none⟩ = some (.bool xo)) ∧ (w'.cell? ⟨bb', bo' + k * 3, none⟩ = some (.int .i64 xn) ∧ w'.cell? ⟨bb', bo' + k * 3 + 1, none⟩ = some (.bool xi) ∧ w'.cell? ⟨bb', bo' + k * 3 + 2, none⟩ = some (.bool xo)))) (by kernel_rfl) ?_ (fun hHeld => ?_)
      · try dsimp only
        go_keep
      refine wpAnyH_take (i := 0) (oi := ?_) (v := ?_) ?_ (by kernel_rfl) (by kernel_rfl) (by kernel_rfl) ?_ ?_ (by assumption) ?_
      rotate_left 2
      · simp only [List.getElem?_toArray, List.getElem?_cons_succ, List.getElem?_cons_zero]; rfl
      · exact fun _ _ _ h => h
      · first
          | (refine Or.inr ⟨?_, ?_⟩ <;> rfl)
          | (refine Or.inl ⟨?_, ?_⟩; · rfl
             intro w hSw; (try dsimp only at hSw); go_simp; (try with_reducible rfl); done)
      try simp only [Act.put, List.setIfInBounds_toArray, List.set_cons_zero, List.set_cons_succ]
      refine wpAnyH_take (i := 1) (oi := ?_) (v := ?_) ?_ (by kernel_rfl) (by kernel_rfl) (by kernel_rfl) ?_ ?_ (by assumption) ?_
      rotate_left 2
      · simp only [List.getElem?_toArray, List.getElem?_cons_succ, List.getElem?_cons_zero]; rfl
      · exact fun _ _ _ h => h
      · first
          | (refine Or.inr ⟨?_, ?_⟩ <;> rfl)
          | (refine Or.inl ⟨?_, ?_⟩; · rfl
             intro w hSw; (try dsimp only at hSw); go_simp; (try with_reducible rfl); done)
      try simp only [Act.put, List.setIfInBounds_toArray, List.set_cons_zero, List.set_cons_succ]
      refine wpAnyH_take (i := 2) (oi := ?_) (v := ?_) ?_ (by kernel_rfl) (by kernel_rfl) (by kernel_rfl) ?_ ?_ (by assumption) ?_
      rotate_left 2
      · simp only [List.getElem?_toArray, List.getElem?_cons_succ, List.getElem?_cons_zero]; rfl
      · exact fun _ _ _ h => h
      · first
          | (refine Or.inr ⟨?_, ?_⟩ <;> rfl)
          | (refine Or.inl ⟨?_, ?_⟩; · rfl
             intro w hSw; (try dsimp only at hSw); go_simp; (try with_reducible rfl); done)
      try simp only [Act.put, List.setIfInBounds_toArray, List.set_cons_zero, List.set_cons_succ]
      refine wpAnyH_take (i := 3) (oi := ?_) (v := ?_) ?_ (by kernel_rfl) (by kernel_rfl) (by kernel_rfl) ?_ ?_ (by assumption) ?_
      rotate_left 2
      · simp only [List.getElem?_toArray, List.getElem?_cons_succ, List.getElem?_cons_zero]; rfl
      · exact fun _ _ _ h => h
      · first
          | (refine Or.inr ⟨?_, ?_⟩ <;> rfl)
          | (refine Or.inl ⟨?_, ?_⟩; · rfl
             intro w hSw; (try dsimp only at hSw); go_simp; (try with_reducible rfl); done)
      try simp only [Act.put, List.setIfInBounds_toArray, List.set_cons_zero, List.set_cons_succ]
      refine wpAnyH_take (i := 4) (oi := ?_) (v := ?_) ?_ (by kernel_rfl) (by kernel_rfl) (by kernel_rfl) ?_ ?_ (by assumption) ?_
      rotate_left 2
      · simp only [List.getElem?_toArray, List.getElem?_cons_succ, List.getElem?_cons_zero]; rfl
      · exact fun _ _ _ h => h
      · first
          | (refine Or.inr ⟨?_, ?_⟩ <;> rfl)
          | (refine Or.inl ⟨?_, ?_⟩; · rfl
             intro w hSw; (try dsimp only at hSw); go_simp; (try with_reducible rfl); done)
      try simp only [Act.put, List.setIfInBounds_toArray, List.set_cons_zero, List.set_cons_succ]
      refine wpAnyH_take (i := 5) (oi := ?_) (v := ?_) ?_ (by kernel_rfl) (by kernel_rfl) (by kernel_rfl) ?_ ?_ (by assumption) ?_
      rotate_left 2
      · simp only [List.getElem?_toArray, List.getElem?_cons_succ, List.getElem?_cons_zero]; rfl
      · exact fun _ _ _ h => h
      · first
          | (refine Or.inr ⟨?_, ?_⟩ <;> rfl)
          | (refine Or.inl ⟨?_, ?_⟩; · rfl
             intro w hSw; (try dsimp only at hSw); go_simp; (try with_reducible rfl); done)
      try simp only [Act.put, List.setIfInBounds_toArray, List.set_cons_zero, List.set_cons_succ]
      refine wpAnyH_take (i := 6) (oi := ?_) (v := ?_) ?_ (by kernel_rfl) (by kernel_rfl) (by kernel_rfl) ?_ ?_ (by assumption) ?_
      rotate_left 2
      · simp only [List.getElem?_toArray, List.getElem?_cons_succ, List.getElem?_cons_zero]; rfl
      · exact fun _ _ _ h => h
      · first
          | (refine Or.inr ⟨?_, ?_⟩ <;> rfl)
          | (refine Or.inl ⟨?_, ?_⟩; · rfl
             intro w hSw; (try dsimp only at hSw); go_simp; (try with_reducible rfl); done)
      try simp only [Act.put, List.setIfInBounds_toArray, List.set_cons_zero, List.set_cons_succ]
      refine wpAnyH_take (i := 7) (oi := ?_) (v := ?_) ?_ (by kernel_rfl) (by kernel_rfl) (by kernel_rfl) ?_ ?_ (by assumption) ?_
      rotate_left 2
      · simp only [List.getElem?_toArray, List.getElem?_cons_succ, List.getElem?_cons_zero]; rfl
      · exact fun _ _ _ h => h
      · first
          | (refine Or.inr ⟨?_, ?_⟩ <;> rfl)
          | (refine Or.inl ⟨?_, ?_⟩; · rfl
             intro w hSw; (try dsimp only at hSw); go_simp; (try with_reducible rfl); done)
      try simp only [Act.put, List.setIfInBounds_toArray, List.set_cons_zero, List.set_cons_succ]
      refine wpAnyH_take (i := 8) (oi := ?_) (v := ?_) ?_ (by kernel_rfl) (by kernel_rfl) (by kernel_rfl) ?_ ?_ (by assumption) ?_
      rotate_left 2
      · simp only [List.getElem?_toArray, List.getElem?_cons_succ, List.getElem?_cons_zero]; rfl
      · exact fun _ _ _ h => h
      · first
          | (refine Or.inr ⟨?_, ?_⟩ <;> rfl)
          | (refine Or.inl ⟨?_, ?_⟩; · rfl
             intro w hSw; (try dsimp only at hSw); go_simp; (try with_reducible rfl); done)
      try simp only [Act.put, List.setIfInBounds_toArray, List.set_cons_zero, List.set_cons_succ]
      refine wpAnyH_take (i := 9) (oi := ?_) (v := ?_) ?_ (by kernel_rfl) (by kernel_rfl) (by kernel_rfl) ?_ ?_ (by assumption) ?_
      rotate_left 2
      · simp only [List.getElem?_toArray, List.getElem?_cons_succ, List.getElem?_cons_zero]; rfl
      · exact fun _ _ _ h => h
      · first
          | (refine Or.inr ⟨?_, ?_⟩ <;> rfl)
          | (refine Or.inl ⟨?_, ?_⟩; · rfl
             intro w hSw; (try dsimp only at hSw); go_simp; (try with_reducible rfl); done)
      try simp only [Act.put, List.setIfInBounds_toArray, List.set_cons_zero, List.set_cons_succ]
      refine wpAnyH_take (i := 10) (oi := ?_) (v := ?_) ?_ (by kernel_rfl) (by kernel_rfl) (by kernel_rfl) ?_ ?_ (by assumption) ?_
      rotate_left 2
      · simp only [List.getElem?_toArray, List.getElem?_cons_succ, List.getElem?_cons_zero]; rfl
      · exact fun _ _ _ h => h
      · first
          | (refine Or.inr ⟨?_, ?_⟩ <;> rfl)
          | (refine Or.inl ⟨?_, ?_⟩; · rfl
             intro w hSw; (try dsimp only at hSw); go_simp; (try with_reducible rfl); done)
      try simp only [Act.put, List.setIfInBounds_toArray, List.set_cons_zero, List.set_cons_succ]
      refine wpAnyH_done (by kernel_rfl) ?_ _
      go_wp2_with fail
      go_roundw
      case rel => exact ⟨k + 1, by omega, by go_num, HB.out.drew⟩
      case measure => simp [intOf]; omega
    · obtain rfl : k = x.n := by omega
      go_wp2_with fail
      go_ret
      exact ⟨rfl, HBw.out⟩
end Go.Proofs.Ytbachpfgakjncaa
namespace Go.Proofs.Ytbachpfgakjncaa
open Go.RowKit

/-- a line in a box, rows of its own -/
structure LbM (w wr : World) (b g1 c1 g2 c2 : Nat) (x : Ln) : Prop where
  box : Bx wr b 26 #[.slice (some ⟨g1, 0, none⟩) x.n c1, .slice (some ⟨g2, 0, none⟩) x.m c2]
  bs : Own wr g1 c1 x.n 3 75 (bkF x.N x.I x.O)
  ts : Own wr g2 c2 x.m 1 3 (fun i => .int .i64 (x.T i))
  bl : Below w.heap.size w wr
  hn : x.n ≤ 1000000
  hm : x.m ≤ 1000000
section
variable {w wr w' : World} {b g1 c1 g2 c2 : Nat} {x : Ln}
theorem LbM.below (h : LbM w wr b g1 c1 g2 c2 x) (hb : Below wr.heap.size wr w') : LbM w w' b g1 c1 g2 c2 x :=
  ⟨h.box.below hb h.box.lt, h.bs.below hb h.bs.lt, h.ts.below hb h.ts.lt, h.bl.trans (hb.mono h.bl.size), h.hn, h.hm⟩
theorem LbM.drew (h : LbM w wr b g1 c1 g2 c2 x) : LbM w wr.drew b g1 c1 g2 c2 x := h.below (Below.refl _ _).drew
theorem LbM.alloc (h : LbM w wr b g1 c1 g2 c2 x) (o : Obj) : LbM w (wr.alloc o) b g1 c1 g2 c2 x := h.below (below_all _ _)
theorem LbM.new {z : Nat} (hb : Below w.heap.size w wr) (h : LnO z wr (.agg #[.slice (some ⟨g1, 0, none⟩) x.n c1, .slice (some ⟨g2, 0, none⟩) x.m c2]) x) (hn : x.n ≤ 1000000) (hm : x.m ≤ 1000000) :
    LbM w (wr.alloc (.cells #[.slice (some ⟨g1, 0, none⟩) x.n c1, .slice (some ⟨g2, 0, none⟩) x.m c2] 26)) wr.heap.size g1 c1 g2 c2 x := by
  obtain ⟨_, _, _, _, e, h1, h2, _⟩ := h
  cases e
  exact ⟨Bx.new _ _ _, h1.alloc _, h2.alloc _, hb.alloc hb.size _, hn, hm⟩
/-- a line that was put into a box of its own -/
theorem LbM.put {z q : Nat} {V : World} (hl : LnO z V (.agg #[.slice (some ⟨g1, 0, none⟩) x.n c1, .slice (some ⟨g2, 0, none⟩) x.m c2]) x) (hx : Bx V q 26 #[.slice (some ⟨g1, 0, none⟩) x.n c1, .slice (some ⟨g2, 0, none⟩) x.m c2]) (hb : Below w.heap.size w V) (hn : x.n ≤ 1000000) (hm : x.m ≤ 1000000) :
    LbM w V q g1 c1 g2 c2 x := by
  obtain ⟨_, _, _, _, e, h1, h2, _⟩ := hl
  cases e
  exact ⟨hx, h1, h2, hb, hn, hm⟩
theorem LbM.left (h : LbM w wr b g1 c1 g2 c2 x) : Calls Try.prog 32 #[.agg #[.slice (some ⟨g1, 0, none⟩) x.n c1, .slice (some ⟨g2, 0, none⟩) x.m c2]] wr fun e w' => e = .returned (.int .i64 (lefO x)) ∧ Below wr.heap.size wr w' :=
  lineLeft_any g1 0 c1 g2 0 c2 x wr (by have := h.hn; omega) (by have := h.hm; omega) (BkC.of_own h.bs) (IC.of_own h.ts)
theorem LbM.leftS (h : LbM w wr b g1 c1 g2 c2 x) : Calls Try.prog 33 #[.agg #[.slice (some ⟨g1, 0, none⟩) x.n c1, .slice (some ⟨g2, 0, none⟩) x.m c2]] wr fun e w' => e = .returned (.int .i64 (lefO x)) ∧ Below wr.heap.size wr w' :=
  specLineLeftO_any g1 0 c1 g2 0 c2 x wr (by have := h.hn; omega) (by have := h.hm; omega) (BkC.of_own h.bs) (IC.of_own h.ts)
theorem LbM.doneI (h : LbM w wr b g1 c1 g2 c2 x) : Calls Try.prog 34 #[.agg #[.slice (some ⟨g1, 0, none⟩) x.n c1, .slice (some ⟨g2, 0, none⟩) x.m c2]] wr fun e w' => e = .returned (.bool (donL x)) ∧ Below wr.heap.size wr w' :=
  lineDone_any g1 0 c1 g2 0 c2 x wr (by have := h.hn; omega) (by have := h.hm; omega) (BkC.of_own h.bs) (IC.of_own h.ts)
theorem LbM.doneS (h : LbM w wr b g1 c1 g2 c2 x) : Calls Try.prog 42 #[.agg #[.slice (some ⟨g1, 0, none⟩) x.n c1, .slice (some ⟨g2, 0, none⟩) x.m c2]] wr fun e w' => e = .returned (.bool (donL x)) ∧ Below wr.heap.size wr w' :=
  specLineDone_any g1 0 c1 g2 0 c2 x wr (by have := h.hn; omega) (by have := h.hm; omega) (BkC.of_own h.bs) (IC.of_own h.ts)
/-- moves handed back, by their reading -/
def MvV (w : World) (v : Value) (ms : List (Int × ByteArray)) : Prop := MLs w v ms.length (mvM ms) (mvS ms)
theorem MvV.keep {v : Value} {ms : List (Int × ByteArray)} (h : MvV w v ms) (hb : Below w.heap.size w w') : MvV w' v ms := MLs.keep h hb
theorem MvV.shape {v : Value} {ms : List (Int × ByteArray)} (h : MvV w v ms) : ∃ ao c, v = .slice ao ms.length c := MLs.shape h
theorem RowMs.vals {z : Nat} {v : Value} {ms : List (Int × ByteArray)} {g : Option Nat} (h : RowMs z w v ms g) : MvV w v ms := h.row.1.reads
theorem MvV.at {ao : Option Addr} {c i : Nat} {ms : List (Int × ByteArray)} (h : MvV w (.slice ao ms.length c) ms) (hi : i < ms.length) : ∃ bm mo, ao = some ⟨bm, mo, none⟩ ∧ w.cell? ⟨bm, mo + i * 2, none⟩ = some (.int .i64 (ms[i]).1) ∧ w.cell? ⟨bm, mo + i * 2 + 1, none⟩ = some (.string (ms[i]).2) := by
  rcases h with ⟨bm, mo, c', e, h⟩ | ⟨h0, _⟩
  · cases e
    obtain ⟨h1, h2⟩ := h i hi
    refine ⟨bm, mo, rfl, ?_, ?_⟩
    · rw [h1]; unfold mvM; rw [List.getElem?_eq_getElem hi]; rfl
    · rw [h2]; unfold mvS; rw [List.getElem?_eq_getElem hi]; rfl
  · omega
/-- moves handed back in a row -/
def MvA (w : World) (v : Value) (ms : List (Int × ByteArray)) : Prop := ∃ b o c, v = .slice (some ⟨b, o, none⟩) ms.length c ∧ ms.length ≤ c ∧ MvsC w b o ms.length (mvM ms) (mvS ms)
theorem MvA.keep {v : Value} {ms : List (Int × ByteArray)} (h : MvA w v ms) (hb : Below w.heap.size w w') : MvA w' v ms := by
  obtain ⟨b, o, c, e, hc, h⟩ := h
  exact ⟨b, o, c, e, hc, h.keep hb⟩
theorem MvA.vals {v : Value} {ms : List (Int × ByteArray)} (h : MvA w v ms) : MvV w v ms := by
  obtain ⟨b, o, c, e, _, h⟩ := h
  exact .inl ⟨b, o, c, e, h⟩
theorem RowMs.adr {z g : Nat} {v : Value} {ms : List (Int × ByteArray)} (h : RowMs z w v ms (some g)) : MvA w v ms := by
  rcases h with ⟨b, c, e, rfl, hz, ho⟩ | ⟨h, _⟩
  · exact ⟨b, 0, c, rfl, ho.1, MvsC.of_own ho⟩
  · cases h
theorem LbM.finI (h : LbM w wr b g1 c1 g2 c2 x) : Calls Try.prog 28 #[.agg #[.slice (some ⟨g1, 0, none⟩) x.n c1, .slice (some ⟨g2, 0, none⟩) x.m c2]] wr fun e W' => (∃ v, e = .returned (.tuple #[v, .bool (vldL x)]) ∧ MvA W' v (fnL x)) ∧ Below wr.heap.size wr W' :=
  (lineFinish_any g1 0 c1 g2 0 c2 x wr (by have := h.hn; omega) (by have := h.hm; omega) (BkC.of_own h.bs) (IC.of_own h.ts)).mono fun _ _ ⟨⟨v, _, h1, h2⟩, h3⟩ => ⟨⟨v, h1, h2.adr⟩, h3⟩
theorem LbM.finS (h : LbM w wr b g1 c1 g2 c2 x) : Calls Try.prog 40 #[.agg #[.slice (some ⟨g1, 0, none⟩) x.n c1, .slice (some ⟨g2, 0, none⟩) x.m c2]] wr fun e W' => (∃ v, e = .returned (.tuple #[v, .bool (vldL x)]) ∧ MvA W' v (fnL x)) ∧ Below wr.heap.size wr W' :=
  (specLineFinish_any g1 0 c1 g2 0 c2 x wr (by have := h.hn; omega) (by have := h.hm; omega) h.bs.lt h.ts.lt (BkC.of_own h.bs) (IC.of_own h.ts)).mono fun _ _ ⟨⟨v, _, h1, h2⟩, h3⟩ => ⟨⟨v, h1, h2.adr⟩, h3⟩
theorem LbM.movI (h : LbM w wr b g1 c1 g2 c2 x) : Calls Try.prog 12 #[.agg #[.slice (some ⟨g1, 0, none⟩) x.n c1, .slice (some ⟨g2, 0, none⟩) x.m c2]] wr fun e W' => (∃ v, e = .returned v ∧ MvV W' v (lmL x)) ∧ Below wr.heap.size wr W' :=
  (lineMoves_any g1 0 c1 g2 0 c2 x wr (by have := h.hn; omega) (by have := h.hm; omega) (BkC.of_own h.bs) (IC.of_own h.ts)).mono fun _ _ ⟨⟨v, _, h1, h2⟩, h3⟩ => ⟨⟨v, h1, h2.vals⟩, h3⟩
theorem LbM.movS (h : LbM w wr b g1 c1 g2 c2 x) : Calls Try.prog 13 #[.agg #[.slice (some ⟨g1, 0, none⟩) x.n c1, .slice (some ⟨g2, 0, none⟩) x.m c2]] wr fun e W' => (∃ v, e = .returned v ∧ MvV W' v (lmL x)) ∧ Below wr.heap.size wr W' :=
  (specLineMoves_any g1 0 c1 g2 0 c2 x wr (by have := h.hn; omega) (by have := h.hm; omega) (BkC.of_own h.bs) (IC.of_own h.ts)).mono fun _ _ ⟨⟨v, _, h1, h2⟩, h3⟩ => ⟨⟨v, h1, by rw [← spL_lmL]; exact h2.vals⟩, h3⟩
theorem LbM.step (h : LbM w wr b g1 c1 g2 c2 x) (s : Int) (l : ByteArray) : Calls Try.prog 15 #[.agg #[.slice (some ⟨g1, 0, none⟩) x.n c1, .slice (some ⟨g2, 0, none⟩) x.m c2], .agg #[.int .i64 s, .string l]] wr (LrR (stO x s l) wr) :=
  lineStep_any g1 0 c1 g2 0 c2 x s l wr (by have := h.hn; omega) (by have := h.hm; omega) (BkC.of_own h.bs) (IC.of_own h.ts)
end
/-- the moves of a valid line can be done -/
theorem lmL_ok {x : Ln} {z : Int × ByteArray} (h : z ∈ lmL x) : vldL x = true ∧ mvOk x z.1 z.2 = true := by
  have hv : vldL x = true := by
    cases hv : vldL x
    · unfold lmL at h; rw [hv] at h; exact absurd h (by simp)
    · rfl
  rw [← spL_lmL] at h
  exact ⟨hv, spL_ok h⟩
theorem lmL_stO {x : Ln} {z : Int × ByteArray} (h : z ∈ lmL x) : stO x z.1 z.2 = some (mvTo x z.1 z.2) := by
  obtain ⟨h1, h2⟩ := lmL_ok h
  unfold stO stepO
  rw [h1, h2]
  rfl
theorem LrR.some {o : Option Ln} {y : Ln} {w w' : World} {e : Ending} (h : LrR o w e w') (ho : o = some y) : ∃ v, e = .returned (.tuple #[v, .bool true]) ∧ LnO w.heap.size w' v y ∧ Below w.heap.size w w' := by
  obtain ⟨hb, ⟨h1, _⟩ | ⟨y', v, h1, h2, h3⟩⟩ := h
  · rw [ho] at h1; cases h1
  · rw [ho] at h1; cases h1; exact ⟨v, h2, h3, hb⟩
end Go.Proofs.Ytbachpfgakjncaa
