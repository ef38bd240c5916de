/-
  The program's LineFinish.
-/
import Derived.Test.YtbachpfgakjncaaNa
import Derived.Test.YtbachpfgakjncaaSf
namespace Go.Proofs.Ytbachpfgakjncaa
open Go.RowKit

/-- moves that make a line done, at most f of them -/
def finL : Nat → Ln → List (Int × ByteArray)
  | 0, _ => []
  | f + 1, x => if 0 < lefS x x.n then (match nearM x with | some y => y :: finL f (mvTo x y.1 y.2) | none => []) else []
def finX (x : Ln) : List (Int × ByteArray) := finL (lefS x x.n).toNat x
theorem finL_zero {x : Ln} (h : ¬ 0 < lefS x x.n) : ∀ f, finL f x = []
  | 0 => rfl
  | _ + 1 => if_neg h
theorem near_less {x : Ln} {y : Int × ByteArray} (h : nearM x = some y) : mvOk x y.1 y.2 = true ∧ lefS (mvTo x y.1 y.2) (mvTo x y.1 y.2).n < lefS x x.n := by
  have hb : nrB x y = true := List.find?_some h
  unfold nrB at hb
  rw [Bool.and_eq_true, decide_eq_true_eq] at hb
  exact hb
theorem finL_eq : ∀ (f g : Nat) (x : Ln), lefS x x.n ≤ f → lefS x x.n ≤ g → finL f x = finL g x
  | 0, g, x, hf, _ => by rw [finL_zero (by omega) g]; rfl
  | f + 1, 0, x, _, hg => by rw [finL_zero (by omega)]; rfl
  | f + 1, g + 1, x, hf, hg => by
    unfold finL
    by_cases h : 0 < lefS x x.n
    · rw [if_pos h, if_pos h]
      cases e : nearM x with
      | none => rfl
      | some y =>
        have hl := (near_less e).2
        show _ :: _ = _ :: _
        rw [finL_eq f g (mvTo x y.1 y.2) (by omega) (by omega)]
    · rw [if_neg h, if_neg h]
theorem finX_done {x : Ln} (h : ¬ 0 < lefS x x.n) : finX x = [] := finL_zero h _
theorem finX_step {x : Ln} {y : Int × ByteArray} (h : 0 < lefS x x.n) (e : nearM x = some y) : finX x = y :: finX (mvTo x y.1 y.2) := by
  have hl := (near_less e).2
  obtain ⟨f, hf⟩ : ∃ f, (lefS x x.n).toNat = f + 1 := ⟨(lefS x x.n).toNat - 1, by omega⟩
  have h1 : finX x = finL (f + 1) x := by unfold finX; rw [hf]
  rw [h1]
  unfold finL
  rw [if_pos h, e]
  show _ :: _ = _ :: _
  rw [finL_eq f (lefS (mvTo x y.1 y.2) (mvTo x y.1 y.2).n).toNat _ (by omega) (by omega)]
  rfl
theorem finL_len : ∀ f x, (finL f x).length ≤ f
  | 0, _ => by simp [finL]
  | f + 1, x => by
    unfold finL
    split
    · split
      · rename_i y _
        have := finL_len f (mvTo x y.1 y.2)
        simp only [List.length_cons]
        omega
      · simp
    · simp
theorem lefS_135 {x : Ln} (hv : vldL x = true) : (lefS x x.n).toNat ≤ 135 := by
  have h1 := (vldL_true hv).2.1
  have h2 := (vldL_true hv).2.2.1
  have h := (lefS_bd x x.n).2
  have h3 : x.n * (5 * x.m + 2) ≤ 5 * 27 := Nat.mul_le_mul h1 (by omega)
  have h4 : ((x.n * (5 * x.m + 2) : Nat) : Int) = (x.n : Int) * (5 * (x.m : Int) + 2) := by simp
  omega
/-- the moves that LineFinish names -/
def fnL (x : Ln) : List (Int × ByteArray) := if vldL x = true then finX x else []
def slLen : Value → Nat
  | .slice _ n _ => n
  | _ => 0
theorem nextNearer_any (r gb cb gt ct : Nat) (x : Ln) (y : Int × ByteArray) (hy : nearM x = some y) (hxn : x.n ≤ 1000) (hxm : x.m ≤ 1000) (w : World) (hr : RwC w r gb cb gt ct x) :
    Calls Try.prog 68 #[.pointer (some ⟨r, 0, none⟩)] w fun e W' => (∃ s, e = .returned (.tuple #[s, .agg #[.int .i64 y.1, .string y.2], .bool true]) ∧ RwN w.heap.size W' s (mvTo x y.1 y.2)) ∧ Below w.heap.size w W' :=
  callsIn_wide.1 (nextNearer_in 6 (Nat.le_refl _) r gb cb gt ct x y hy hxn hxm w hr)
theorem RwC.kept {w w' : World} {r gb cb gt ct R : Nat} {x : Ln} (h : RwC w r gb cb gt ct x) (hg : w.grownBy w' (some R)) (h1 : r ≠ R) (h2 : gb ≠ R) (h3 : gt ≠ R) : RwC w' r gb cb gt ct x :=
  ⟨h.box.kept hg h1, h.bs.kept hg (by simpa using h2), h.ts.kept hg (by simpa using h3), h.d1, h.d2, h.d3⟩
/-- between two rounds of LineFinish's loop -/
structure FnI (w wr : World) (r gb cb gt ct g cap : Nat) (x y : Ln) (pre : List (Int × ByteArray)) : Prop where
  rw : RwC wr r gb cb gt ct y
  ow : OwnMs wr g cap pre
  gz : w.heap.size ≤ g
  vl : vldL y = true
  fx : pre ++ finX y = finX x
  ln : pre.length + (lefS y y.n).toNat ≤ 135
  bl : Below w.heap.size w wr
theorem FnI.below {w wr w' : World} {r gb cb gt ct g cap : Nat} {x y : Ln} {pre : List (Int × ByteArray)} (h : FnI w wr r gb cb gt ct g cap x y pre) (hb : Below wr.heap.size wr w') : FnI w w' r gb cb gt ct g cap x y pre :=
  ⟨h.rw.below hb (Nat.le_refl _), Own.below h.ow hb (Own.lt h.ow), h.gz, h.vl, h.fx, h.ln, h.bl.trans (hb.mono h.bl.size)⟩
set_option linter.unusedSimpArgs false in
set_option maxRecDepth 100000 in
set_option maxHeartbeats 4000000 in
theorem lineFinish_any (bb bo cb tb tu ct : Nat) (x : Ln) (w : World) (hn : x.n ≤ 1000000000000) (hm : x.m ≤ 1000000000000) (hbk : BkC w bb bo x.n x.N x.I x.O) (hic : IC w tb tu x.m x.T) :
    Calls Try.prog 28 #[.agg #[.slice (some ⟨bb, bo, none⟩) x.n cb, .slice (some ⟨tb, tu, none⟩) x.m ct]] w fun e W' => (∃ v g, e = .returned (.tuple #[v, .bool (vldL x)]) ∧ RowMs w.heap.size W' v (fnL x) (some g)) ∧ Below w.heap.size w W' := by
  have HBB : Hid (∀ a, Below w.heap.size w (w.alloc a)) := fun a => below_all _ _
  have HRW : Hid (∀ w', Below w.heap.size w w' → Calls Try.prog 46 #[.agg #[.slice (some ⟨bb, bo, none⟩) x.n cb, .slice (some ⟨tb, tu, none⟩) x.m ct]] w' (RwO x w')) := fun w' hb => by
    refine railwayOf_any bb bo cb tb tu ct x w' hn hm ?_ (hic.keep hb)
    intro k hk
    obtain ⟨h0, h1, h2⟩ := hbk k hk
    have hlt : bb < w.heap.size := World.block_lt_of_cell? w ⟨bb, bo + k * 3, none⟩ h0
    exact ⟨by rw [hb.cell (p := ⟨bb, bo + k * 3, none⟩) hlt]; exact h0, by rw [hb.cell (p := ⟨bb, bo + k * 3 + 1, none⟩) hlt]; exact h1, by rw [hb.cell (p := ⟨bb, bo + k * 3 + 2, none⟩) hlt]; exact h2⟩
  clear hbk hic
  go_enter Try.func28, Try.ntmps28
  go_wp2_with fail
  refine (HRW.out _ (HBB.out _)).mono ?_
  rintro e w1 ⟨hb1, h1⟩
  have HB1 := Lib.hid ((HBB.out _).trans (hb1.mono (by simp)))
  have HOE : Hid (Own (w1.alloc (.cells #[] 34)) w1.heap.size 0 0 2 34 (mvF (mvM []) (mvS []))) := own_empty _ _ _ _
  have HB2 : Hid (∀ a, Below w.heap.size w (w1.alloc a)) := fun a => HB1.out.alloc HB1.out.size _
  rcases h1 with ⟨hv, s, rfl, r, gb, cb', gt, ct', rfl, hrw, k1, k2, k3⟩ | ⟨hv, rfl⟩
  · have HI0 : Hid (FnI w (w1.alloc (.cells #[] 34)) r gb cb' gt ct' w1.heap.size 0 x x []) :=
      ⟨hrw.below (below_all _ _) (Nat.le_refl _), HOE.out, HB1.out.size, hv, rfl, by simpa using lefS_135 hv, HB2.out _⟩
    have HV := Lib.hid hv
    have HVX : Hid (fnL x = finX x) := if_pos hv
    clear hb1 hv hrw k1 k2 k3 HOE
    go_wp2_with fail
    generalize w1.alloc (.cells #[] 34) = W0 at *
    go_loopw [4, 6, 7, 8, 9] (fun s o _ _ _ wr => ∃ (r gb cb gt ct g cap : Nat) (y : Ln) (pre : List (Int × ByteArray)), s = .pointer (some ⟨r, 0, none⟩) ∧ o = .slice (some ⟨g, 0, none⟩) pre.length cap ∧ Hid (FnI w wr r gb cb gt ct g cap x y pre)) (fun _ o _ _ _ _ => 135 - slLen o)
    case atStart => exact ⟨r, gb, cb', gt, ct', w1.heap.size, 0, x, [], rfl, rfl, HI0⟩
    case round =>
      obtain ⟨r, gb, cb, gt, ct, g, cap, y, pre, rfl, rfl, HI⟩ := hrel
      have hnb := vldL_true HI.out.vl
      have hn5 : y.n ≤ 5 := hnb.2.1
      have hm5 : y.m ≤ 5 := hnb.2.2.1
      clear hnb
      have HLM := Lib.hid (leftMoves_any r gb cb gt ct y wr (by omega) (by omega) HI.out.rw)
      by_cases h0 : 0 < lefS y y.n
      · obtain ⟨z, hz, hzb⟩ := nearM_some HI.out.vl h0
        have HZ := Lib.hid hz
        have HNN : Hid (∀ w', Below wr.heap.size wr w' → Calls Try.prog 68 #[.pointer (some ⟨r, 0, none⟩)] w' fun e W' => (∃ s, e = .returned (.tuple #[s, .agg #[.int .i64 z.1, .string z.2], .bool true]) ∧ RwN w'.heap.size W' s (mvTo y z.1 z.2)) ∧ Below w'.heap.size w' W') := fun w' hb => nextNearer_any r gb cb gt ct y z hz (by omega) (by omega) w' (HI.out.rw.below hb (Nat.le_refl _))
        have hlen : pre.length < 135 := by have := HI.out.ln; omega
        clear hz hzb
        go_wp2_with fail
        refine HLM.out.mono ?_
        rintro e w2 ⟨rfl, hb2⟩
        have HI2 := Lib.hid (HI.out.below hb2)
        have HC := Lib.hid (HNN.out w2 hb2)
        clear hb2
        go_wp2_with fail
        refine HC.out.mono ?_
        rintro e w3 ⟨⟨s, rfl, r2, gb2, cb2, gt2, ct2, rfl, hrw, k1, k2, k3⟩, hb3⟩
        have HI3 := Lib.hid (HI2.out.below hb3)
        have hg2 := Own.lt HI2.out.ow
        have HRN : Hid (RwC (w3.alloc (.cells #[.int .i64 z.1, .string z.2] 34)) r2 gb2 cb2 gt2 ct2 (mvTo y z.1 z.2)) := hrw.below (below_all _ _) (Nat.le_refl _)
        have HI4 : Hid (FnI w (w3.alloc (.cells #[.int .i64 z.1, .string z.2] 34)) r gb cb gt ct g cap x y pre) := HI3.out.below (below_all _ _)
        have n1 : r2 ≠ g := by omega
        have n2 : gb2 ≠ g := by omega
        have n3 : gt2 ≠ g := by omega
        clear hb3 hrw k1 k2 k3 hg2
        have HO4 : Hid (Own (w3.alloc (.cells #[.int .i64 z.1, .string z.2] 34)) g cap pre.length 2 34 (mvF (mvM (pre ++ [z])) (mvS (pre ++ [z])))) := OwnMs.ext HI4.out.ow _
        have HNW := Lib.hid (mvF_new pre z)
        go_wp2_with (at_builtin; refine wpList_push elMv rfl (.tmp 31) (.tmp 33) rfl HO4.out rfl [.int .i64 z.1, .string z.2] (by show Value.slice _ 1 1 = _; simp) HNW.out (fun _ _ => mvF_one _ _ _) (by unfold maxLen; omega) (by omega) ?_; intro g' c' wa HA hgr hd)
        have hz2 := hgr.size
        have HI5 : Hid (FnI w wa r2 gb2 cb2 gt2 ct2 g' c' x (mvTo y z.1 z.2) (pre ++ [z])) := by
          have hb5 := HI4.out.bl
          have hgz := HI4.out.gz
          refine ⟨HRN.out.kept hgr n1 n2 n3, ?_, ?_, vld_mv HI4.out.vl (near_less HZ.out).1, ?_, ?_, hb5.trans (below_of_grown hgr hgz hb5.size)⟩
          · show Own _ _ _ _ _ _ _
            rw [List.length_append]
            exact HA
          · rcases hd with ⟨h, _⟩ | h
            · omega
            · have := hb5.size; omega
          · rw [← HI4.out.fx, finX_step h0 HZ.out, List.append_assoc]
            rfl
          · have h1 := (near_less HZ.out).2
            have h2 := HI4.out.ln
            rw [List.length_append]
            simp only [List.length_cons, List.length_nil]
            omega
        clear HA hgr hd hz2 n1 n2 n3
        go_wp2_with fail
        go_roundw
        case rel => exact ⟨r2, gb2, cb2, gt2, ct2, g', c', mvTo y z.1 z.2, pre ++ [z], rfl, by simp, HI5⟩
        case measure => simp [slLen]; omega
      · have HFX : Hid (pre = fnL x) := by
          show _ = _
          rw [HVX.out, ← HI.out.fx, finX_done h0, List.append_nil]
        go_wp2_with fail
        refine HLM.out.mono ?_
        rintro e w2 ⟨rfl, hb2⟩
        have HI2 := Lib.hid (HI.out.below hb2)
        clear hb2
        go_wp2_with fail
        refine bodyPost_ret (v := .tuple #[.slice (some ⟨g, 0, none⟩) pre.length cap, .bool true]) (by simp [results, Try.results28, go_sem]) rfl ?_
        exact ⟨⟨_, g, by rw [HV.out], .inl ⟨g, cap, rfl, by rw [← HFX.out], HI2.out.gz, by rw [← HFX.out]; exact HI2.out.ow⟩⟩, HI2.out.bl⟩
  · have HV := Lib.hid hv
    have HVX : Hid (fnL x = []) := by show _ = _; unfold fnL; rw [hv]; rfl
    clear hb1 hv
    go_wp2_with fail
    refine bodyPost_ret (v := .tuple #[.slice (some ⟨w1.heap.size, 0, none⟩) 0 0, .bool false]) (by simp [results, Try.results28, go_sem]) rfl ?_
    exact ⟨⟨_, w1.heap.size, by rw [HV.out], .inl ⟨w1.heap.size, 0, rfl, by rw [HVX.out]; rfl, HB1.out.size, by rw [HVX.out]; exact HOE.out⟩⟩, HB2.out _⟩
end Go.Proofs.Ytbachpfgakjncaa
