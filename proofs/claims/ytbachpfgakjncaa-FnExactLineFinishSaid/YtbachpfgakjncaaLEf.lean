/-
  The walk of the exact law of LineFinish.
-/
import Derived.Test.YtbachpfgakjncaaLEr
import Derived.Test.YtbachpfgakjncaaEg
import Derived.Test.YtbachpfgakjncaaNd
namespace Go.Proofs.Ytbachpfgakjncaa
open Go.RowKit

theorem fnL_len (x : Ln) : (fnL x).length ≤ 135 := by
  unfold fnL
  split
  · rename_i h
    have h1 := lefS_135 h
    have h2 := finL_len (lefS x x.n).toNat x
    unfold finX
    omega
  · simp
theorem LnO.fi {z : Nat} {w : World} {va vb : Value} {x : Ln} (hv : LnO z w (.agg #[va, vb]) x) (h1 : x.n ≤ 1000000000) (h2 : x.m ≤ 1000000000) :
    Calls Try.prog 28 #[.agg #[va, vb]] w fun e W' => (∃ v g, e = .returned (.tuple #[v, .bool (vldL x)]) ∧ RowN W' v (fnL x).length (mvM (fnL x)) (mvS (fnL x)) g ∧ (∀ c, g = some c → w.heap.size ≤ c ∧ c < W'.heap.size)) ∧ Below w.heap.size w W' := by
  obtain ⟨b1, c1, b2, c2, e, o1, o2, _⟩ := hv
  cases e
  exact (lineFinish_any b1 0 c1 b2 0 c2 x w (by omega) (by omega) (BkC.of_own o1) (IC.of_own o2)).mono fun e W' ⟨⟨v, g, h1, h2⟩, hb⟩ => ⟨⟨v, g, h1, h2.row.1, h2.row.2⟩, hb⟩
theorem LnO.fiS {z : Nat} {w : World} {va vb : Value} {x : Ln} (hv : LnO z w (.agg #[va, vb]) x) (h1 : x.n ≤ 1000000000) (h2 : x.m ≤ 1000000000) :
    Calls Try.prog 40 #[.agg #[va, vb]] w fun e W' => (∃ v g, e = .returned (.tuple #[v, .bool (vldL x)]) ∧ RowN W' v (fnL x).length (mvM (fnL x)) (mvS (fnL x)) g ∧ (∀ c, g = some c → w.heap.size ≤ c ∧ c < W'.heap.size)) ∧ Below w.heap.size w W' := by
  obtain ⟨b1, c1, b2, c2, e, o1, o2, _⟩ := hv
  cases e
  exact (specLineFinish_any b1 0 c1 b2 0 c2 x w (by omega) (by omega) o1.lt o2.lt (BkC.of_own o1) (IC.of_own o2)).mono fun e W' ⟨⟨v, g, h1, h2⟩, hb⟩ => ⟨⟨v, g, h1, h2.row.1, h2.row.2⟩, hb⟩
set_option linter.unusedSimpArgs false in
set_option maxRecDepth 100000 in
set_option maxHeartbeats 4000000 in
theorem lawLineFinish (v : Value) (x : Ln) (w : World) (hn : x.n ≤ 9223372036854775807) (hm : x.m ≤ 9223372036854775807) (hv : LnV w v x) :
    Calls Try.prog 10 #[v] w fun e w' => e = .returned (.bool true) ∧ Below w.heap.size w w' := by
  have HV : Hid (∀ w', Below w.heap.size w w' → LnV w' v x) := fun w' hb => hv.keep hb
  have HBB : Hid (∀ a, Below w.heap.size w (w.alloc a)) := fun a => below_all _ _
  obtain ⟨va0, vb0, rfl, _, _⟩ := hv
  go_enter Try.func10, Try.ntmps10
  go_wp2_with fail
  have HB := Lib.hid (HBB.out (.cells #[va0, vb0] 40))
  have HA : Hid (Bx (w.alloc (.cells #[va0, vb0] 40)) w.heap.size 40 #[va0, vb0]) := Bx.new _ _ _
  have hz0 : w.heap.size + 1 ≤ (w.alloc (.cells #[va0, vb0] 40)).heap.size := by simp
  generalize hW0 : w.alloc (.cells #[va0, vb0] 40) = w0 at *
  clear hW0
  refine (szLine_any _ x _ _ (by omega) hn hm (HV.out _ HB.out)).mono ?_
  rintro e w1 ⟨rfl, hb1⟩
  have hb9 := hb1
  (try replace HA := Lib.hid (HA.out.below hb9 HA.out.lt))
  (try replace HO := Lib.hid (HO.out.below hb9 (Nat.le_refl _)))
  (try replace H4 := Lib.hid (H4.out.below hb9))
  (try replace H5 := Lib.hid (H5.out.below hb9))
  (try replace H6 := Lib.hid (H6.out.below hb9))
  (try replace HK := Lib.hid (HK.out.below hb9))
  (try replace H10 := Lib.hid (H10.out.below hb9))
  replace HB := Lib.hid (HB.out.trans (hb9.mono HB.out.size))
  clear hb9
  have hz1 : w0.heap.size ≤ w1.heap.size := hb1.size
  clear hb1
  have hac := HA.out.cell
  by_cases hz : (1048576 : Int) - (x.n + x.m : Nat) < 0
  · rw [show szR (x.n + x.m) 1048576 = -1 from if_pos hz]
    go_wp2_with fail
    go_ret
    exact ⟨rfl, HB.out⟩
  rw [show szR (x.n + x.m) 1048576 = 1048576 - (x.n + x.m : Nat) from if_neg hz]
  have hnb : x.n ≤ 1048576 := by omega
  have hmb : x.m ≤ 1048576 := by omega
  obtain ⟨lf, hlf⟩ : ∃ lf : Int, lf = 1048576 - (x.n + x.m : Nat) := ⟨_, rfl⟩
  rw [← hlf]
  have hl0 : ¬ lf < 0 := by omega
  clear hlf hz
  have HTL : Hid (∀ W, Below w.heap.size w W → Calls Try.prog 19 #[.agg #[va0, vb0]] W fun e w' => ∃ u, e = .returned u ∧ LnO W.heap.size w' u x ∧ Below W.heap.size W w') := fun W hW => toLine_any _ x W (by omega) (by omega) (HV.out W hW)
  have hql := fnL_len x
  obtain ⟨q, hq⟩ : ∃ q, q = (fnL x).length := ⟨_, rfl⟩
  have HQ := Lib.hid hq
  obtain ⟨ok, hok⟩ : ∃ ok, ok = vldL x := ⟨_, rfl⟩
  have HOKB := Lib.hid hok
  clear hok
  rw [← hq] at hql
  clear hq
  go_wp2_with fail
  -- the reference's answer
  refine (HTL.out _ HB.out).mono ?_
  rintro e w2 ⟨u2, rfl, ho2, hb2⟩
  have hb9 := hb2
  (try replace HA := Lib.hid (HA.out.below hb9 HA.out.lt))
  (try replace HO := Lib.hid (HO.out.below hb9 (Nat.le_refl _)))
  (try replace H4 := Lib.hid (H4.out.below hb9))
  (try replace H5 := Lib.hid (H5.out.below hb9))
  (try replace H6 := Lib.hid (H6.out.below hb9))
  (try replace HK := Lib.hid (HK.out.below hb9))
  (try replace H10 := Lib.hid (H10.out.below hb9))
  replace HB := Lib.hid (HB.out.trans (hb9.mono HB.out.size))
  clear hb9
  have hz2 : w1.heap.size ≤ w2.heap.size := hb2.size
  clear hb2 hac
  obtain ⟨va2, vb2, ga2, gb2, rfl, _⟩ := ho2.new
  have HO := Lib.hid ho2
  clear ho2
  go_wp2_with fail
  refine (LnO.fiS HO.out (by omega) (by omega)).mono ?_
  rintro e w3 ⟨⟨v3, g3, rfl, hr3, hf3⟩, hb3⟩
  rw [← HQ.out] at hr3
  rw [← HOKB.out]
  clear HO
  have hb9 := hb3
  (try replace HA := Lib.hid (HA.out.below hb9 HA.out.lt))
  (try replace HO := Lib.hid (HO.out.below hb9 (Nat.le_refl _)))
  (try replace H4 := Lib.hid (H4.out.below hb9))
  (try replace H5 := Lib.hid (H5.out.below hb9))
  (try replace H6 := Lib.hid (H6.out.below hb9))
  (try replace HK := Lib.hid (HK.out.below hb9))
  (try replace H10 := Lib.hid (H10.out.below hb9))
  replace HB := Lib.hid (HB.out.trans (hb9.mono HB.out.size))
  clear hb9
  have hz3 : w2.heap.size ≤ w3.heap.size := hb3.size
  clear hb3
  have H4 := Lib.hid hr3
  have F4 := Lib.hid hf3
  obtain ⟨a4, c4, rfl⟩ := hr3.shape
  clear hr3 hf3
  have hac := HA.out.cell
  go_wp2_with fail
  -- the argument
  refine (HTL.out _ HB.out).mono ?_
  rintro e w5 ⟨u5, rfl, ho5, hb5⟩
  have hb9 := hb5
  (try replace HA := Lib.hid (HA.out.below hb9 HA.out.lt))
  (try replace HO := Lib.hid (HO.out.below hb9 (Nat.le_refl _)))
  (try replace H4 := Lib.hid (H4.out.below hb9))
  (try replace H5 := Lib.hid (H5.out.below hb9))
  (try replace H6 := Lib.hid (H6.out.below hb9))
  (try replace HK := Lib.hid (HK.out.below hb9))
  (try replace H10 := Lib.hid (H10.out.below hb9))
  replace HB := Lib.hid (HB.out.trans (hb9.mono HB.out.size))
  clear hb9
  have hz5 : w3.heap.size ≤ w5.heap.size := hb5.size
  clear hb5 hac
  obtain ⟨va5, vb5, ga5, gb5, rfl, hn5⟩ := ho5.new
  obtain ⟨ao5, ca5, rfl⟩ := hn5.1.reads.shape
  obtain ⟨bo5, cb5, rfl⟩ := hn5.2.1.reads.shape
  have HO := Lib.hid ho5
  have F5 := Lib.hid hn5.2.2.2
  clear ho5
  go_wp2_with fail
  have hb9 := below_all w5 (.cells #[.slice ao5 x.n ca5, .slice bo5 x.m cb5] 26)
  (try replace HA := Lib.hid (HA.out.below hb9 HA.out.lt))
  (try replace HO := Lib.hid (HO.out.below hb9 (Nat.le_refl _)))
  (try replace H4 := Lib.hid (H4.out.below hb9))
  (try replace H5 := Lib.hid (H5.out.below hb9))
  (try replace H6 := Lib.hid (H6.out.below hb9))
  (try replace HK := Lib.hid (HK.out.below hb9))
  (try replace H10 := Lib.hid (H10.out.below hb9))
  replace HB := Lib.hid (HB.out.trans (hb9.mono HB.out.size))
  clear hb9
  have H5 := Lib.hid hn5.boxed
  have hz6 : w5.heap.size + 1 ≤ (w5.alloc (.cells #[.slice ao5 x.n ca5, .slice bo5 x.m cb5] 26)).heap.size := by simp
  clear hn5
  generalize w5.alloc (.cells #[.slice ao5 x.n ca5, .slice bo5 x.m cb5] 26) = w6 at *
  refine (LnO.fi HO.out (by omega) (by omega)).mono ?_
  rintro e w7 ⟨⟨v7, g7, rfl, hr7, hf7⟩, hb7⟩
  rw [← HQ.out] at hr7
  rw [← HOKB.out]
  clear HO
  have hb9 := hb7
  (try replace HA := Lib.hid (HA.out.below hb9 HA.out.lt))
  (try replace HO := Lib.hid (HO.out.below hb9 (Nat.le_refl _)))
  (try replace H4 := Lib.hid (H4.out.below hb9))
  (try replace H5 := Lib.hid (H5.out.below hb9))
  (try replace H6 := Lib.hid (H6.out.below hb9))
  (try replace HK := Lib.hid (HK.out.below hb9))
  (try replace H10 := Lib.hid (H10.out.below hb9))
  replace HB := Lib.hid (HB.out.trans (hb9.mono HB.out.size))
  clear hb9
  have hz7 : w6.heap.size ≤ w7.heap.size := hb7.size
  clear hb7
  have H6 := Lib.hid hr7
  have F7 := Lib.hid hf7
  obtain ⟨a7, c7, rfl⟩ := hr7.shape
  clear hr7 hf7
  go_wp2_with fail
  -- alike
  refine (eqMoveS_ML _ _ q _ _ _ (by omega) H6.out.reads H4.out.reads).mono ?_
  rintro e w8 ⟨rfl, hb8⟩
  have hb9 := hb8
  (try replace HA := Lib.hid (HA.out.below hb9 HA.out.lt))
  (try replace HO := Lib.hid (HO.out.below hb9 (Nat.le_refl _)))
  (try replace H4 := Lib.hid (H4.out.below hb9))
  (try replace H5 := Lib.hid (H5.out.below hb9))
  (try replace H6 := Lib.hid (H6.out.below hb9))
  (try replace HK := Lib.hid (HK.out.below hb9))
  (try replace H10 := Lib.hid (H10.out.below hb9))
  replace HB := Lib.hid (HB.out.trans (hb9.mono HB.out.size))
  clear hb9
  have hz8 : w7.heap.size ≤ w8.heap.size := hb8.size
  clear hb8
  have h5c := H5.out.bx.cell
  have hac := HA.out.cell
  go_wp2_with fail
  refine wp_region_held_drew (S := (fun w' => w'.cell? ⟨w5.heap.size, 0, none⟩ = some (.slice ao5 x.n ca5) ∧ w'.cell? ⟨w5.heap.size, 1, none⟩ = some (.slice bo5 x.m cb5) ∧ w'.cell? ⟨w.heap.size, 0, none⟩ = some va0 ∧ w'.cell? ⟨w.heap.size, 1, none⟩ = some vb0)) (by kernel_rfl) ?_ (fun hHeld => ?_)
  · try dsimp only
    go_keep
  refine wpAnyH_take (i := 0) (oi := ?_) (v := ?_) ?_ (by kernel_rfl) (by kernel_rfl) (by kernel_rfl) ?_ ?_ (by assumption) ?_
  rotate_left 2
  · simp only [List.getElem?_toArray, List.getElem?_cons_succ, List.getElem?_cons_zero]; rfl
  · exact fun _ _ _ h => h
  · first
      | (refine Or.inr ⟨?_, ?_⟩ <;> rfl)
      | (refine Or.inl ⟨?_, ?_⟩; · rfl
         intro w hSw; (try dsimp only at hSw); go_simp; (try with_reducible rfl); done)
  try simp only [Act.put, List.setIfInBounds_toArray, List.set_cons_zero, List.set_cons_succ]
  refine wpAnyH_take (i := 1) (oi := ?_) (v := ?_) ?_ (by kernel_rfl) (by kernel_rfl) (by kernel_rfl) ?_ ?_ (by assumption) ?_
  rotate_left 2
  · simp only [List.getElem?_toArray, List.getElem?_cons_succ, List.getElem?_cons_zero]; rfl
  · exact fun _ _ _ h => h
  · first
      | (refine Or.inr ⟨?_, ?_⟩ <;> rfl)
      | (refine Or.inl ⟨?_, ?_⟩; · rfl
         intro w hSw; (try dsimp only at hSw); go_simp; (try with_reducible rfl); done)
  try simp only [Act.put, List.setIfInBounds_toArray, List.set_cons_zero, List.set_cons_succ]
  refine wpAnyH_ready (rs := [2]) (by kernel_rfl) (by simp) ?_
  refine AllReadyH.cons (o := ?_) ?_ (fun K hK => ?_) AllReadyH.nil
  rotate_left 1
  · simp only [List.getElem?_toArray, List.getElem?_cons_succ, List.getElem?_cons_zero]; rfl
  go_simp
  go_at_call 19
  go_must (refine Calls.mono (HTL.out _ HB.out.drew) ?_)
  rintro e w9 ⟨u9, rfl, ho9, hb9⟩
  have hx9 : Below w8.heap.size w8 w9 := (Below.refl _ w8).drew.trans hb9
  clear hb9
  have hb9 := hx9
  (try replace HA := Lib.hid (HA.out.below hb9 HA.out.lt))
  (try replace HO := Lib.hid (HO.out.below hb9 (Nat.le_refl _)))
  (try replace H4 := Lib.hid (H4.out.below hb9))
  (try replace H5 := Lib.hid (H5.out.below hb9))
  (try replace H6 := Lib.hid (H6.out.below hb9))
  (try replace HK := Lib.hid (HK.out.below hb9))
  (try replace H10 := Lib.hid (H10.out.below hb9))
  replace HB := Lib.hid (HB.out.trans (hb9.mono HB.out.size))
  clear hb9
  have hz9 : w8.heap.size ≤ w9.heap.size := hx9.size
  clear hx9 h5c hac
  have h5c := H5.out.bx.cell
  have hac := HA.out.cell
  obtain ⟨va9, vb9, ga9, gb9, rfl, hn9⟩ := ho9.new
  have HN9 := Lib.hid hn9
  clear ho9 hn9
  refine hK.out _ _ ?_ (fun hHeld => ?_)
  · try dsimp only
    go_keep
  clear hK K
  try simp only [Act.put, List.setIfInBounds_toArray, List.set_cons_zero, List.set_cons_succ]
  refine wpAnyH_ready (rs := [3]) (by kernel_rfl) (by simp) ?_
  refine AllReadyH.cons (o := ?_) ?_ (fun K hK => ?_) AllReadyH.nil
  rotate_left 1
  · simp only [List.getElem?_toArray, List.getElem?_cons_succ, List.getElem?_cons_zero]; rfl
  go_simp
  go_at_call 21
  go_must (refine Calls.mono (eqLine_same _ _ x _ (by omega) (by omega) H5.out.reads HN9.out.reads) ?_)
  rintro e w10 ⟨rfl, hb10⟩
  have hb9 := hb10
  (try replace HA := Lib.hid (HA.out.below hb9 HA.out.lt))
  (try replace HO := Lib.hid (HO.out.below hb9 (Nat.le_refl _)))
  (try replace H4 := Lib.hid (H4.out.below hb9))
  (try replace H5 := Lib.hid (H5.out.below hb9))
  (try replace H6 := Lib.hid (H6.out.below hb9))
  (try replace HK := Lib.hid (HK.out.below hb9))
  (try replace H10 := Lib.hid (H10.out.below hb9))
  replace HB := Lib.hid (HB.out.trans (hb9.mono HB.out.size))
  clear hb9
  have hz10 : w9.heap.size ≤ w10.heap.size := hb10.size
  clear hb10 h5c hac HN9
  have h5c := H5.out.bx.cell
  have hac := HA.out.cell
  refine hK.out _ _ ?_ (fun hHeld => ?_)
  · try dsimp only
    go_keep
  clear hK K
  try simp only [Act.put, List.setIfInBounds_toArray, List.set_cons_zero, List.set_cons_succ]
  refine wpAnyH_take (i := 4) (oi := ?_) (v := ?_) ?_ (by kernel_rfl) (by kernel_rfl) (by kernel_rfl) ?_ ?_ (by assumption) ?_
  rotate_left 2
  · simp only [List.getElem?_toArray, List.getElem?_cons_succ, List.getElem?_cons_zero]; rfl
  · exact fun _ _ _ h => h
  · first
      | (refine Or.inr ⟨?_, ?_⟩ <;> rfl)
      | (refine Or.inl ⟨?_, ?_⟩; · rfl
         intro w hSw; (try dsimp only at hSw); go_simp; (try with_reducible rfl); done)
  try simp only [Act.put, List.setIfInBounds_toArray, List.set_cons_zero, List.set_cons_succ]
  refine wpAnyH_done (by kernel_rfl) ?_ _
  go_wp2_with fail
  -- marks on the argument
  refine (markLine_any _ _ x ga5 gb5 1 _ (by omega) (by omega) (by omega) (by omega) H5.out.rb H5.out.ri H5.out.n12).mono ?_
  rintro e w11 ⟨rfl, _, _, wm, hgm, hgn⟩
  have F57 : Hid ((∀ c, ga5 = some c → w3.heap.size ≤ c ∧ c < w5.heap.size) ∧ (∀ c, gb5 = some c → w3.heap.size ≤ c ∧ c < w5.heap.size)) := ⟨fun c e => by have := F5.out.1 c e; omega, fun c e => by have := F5.out.2 c e; omega⟩
  have hz11 : w10.heap.size ≤ w11.heap.size := Nat.le_trans hgm.size hgn.size
  replace H4 := Lib.hid ((H4.out.grown hgm (fun b e e2 => by have := F4.out b e; have := F57.out.1 _ e2; omega)).grown hgn (fun b e e2 => by have := F4.out b e; have := F57.out.2 _ e2; omega))
  replace H6 := Lib.hid ((H6.out.grown hgm (fun b e e2 => by have := F7.out b e; have := F57.out.1 _ e2; omega)).grown hgn (fun b e e2 => by have := F7.out b e; have := F57.out.2 _ e2; omega))
  replace HA := Lib.hid ((HA.out.grown hgm (fun e => by have := F57.out.1 _ e; omega)).grown hgn (fun e => by have := F57.out.2 _ e; omega))
  replace HB := Lib.hid (below_grown (below_grown HB.out hgm (fun c e => by have := F57.out.1 c e; omega) (Nat.le_refl _)) hgn (fun c e => by have := F57.out.2 c e; omega) (Nat.le_refl _))
  clear hgm hgn h5c hac H5
  have hk0 : ¬ (1 + 3 * (x.n : Int) + (x.m : Int)) < 0 := by omega
  go_wp2_with fail
  refine (eqMoveS_ML _ _ q _ _ _ (by omega) H6.out.reads H4.out.reads).mono ?_
  rintro e w12 ⟨rfl, hb12⟩
  have hb9 := hb12
  (try replace HA := Lib.hid (HA.out.below hb9 HA.out.lt))
  (try replace HO := Lib.hid (HO.out.below hb9 (Nat.le_refl _)))
  (try replace H4 := Lib.hid (H4.out.below hb9))
  (try replace H5 := Lib.hid (H5.out.below hb9))
  (try replace H6 := Lib.hid (H6.out.below hb9))
  (try replace HK := Lib.hid (HK.out.below hb9))
  (try replace H10 := Lib.hid (H10.out.below hb9))
  replace HB := Lib.hid (HB.out.trans (hb9.mono HB.out.size))
  clear hb9
  have hz12 : w11.heap.size ≤ w12.heap.size := hb12.size
  clear hb12 hk0
  have HMK : Hid (Calls Try.prog 23 #[.slice a7 q c7, .int .i64 1] w12 fun e w' => e = .returned (.int .i64 (1 + 2 * q)) ∧ RowN w' (.slice a7 q c7) q (mkMM 1) (mkMS 1) g7 ∧ w12.grownBy w' g7) := by
    have h2 := markM_row _ q _ _ g7 1 w12 (by omega) (by omega) H6.out
    exact h2
  go_wp2_with fail
  -- marks on the answer
  refine HMK.out.mono ?_
  rintro e w13 ⟨rfl, hk, hg⟩
  have hz13 : w12.heap.size ≤ w13.heap.size := hg.size
  have HK := Lib.hid hk
  replace H4 := Lib.hid (H4.out.grown hg (fun b e e2 => by have := F4.out b e; have := F7.out _ e2; omega))
  replace HA := Lib.hid (HA.out.grown hg (fun e => by have := F7.out _ e; omega))
  replace HB := Lib.hid (below_grown HB.out hg (fun c e => by have := F7.out c e; omega) (Nat.le_refl _))
  clear hk hg H6 HMK
  have HHK : Hid (∀ W, RowN W (.slice a7 q c7) q (mkMM 1) (mkMS 1) g7 → Calls Try.prog 24 #[.slice a7 q c7, .int .i64 1] W fun e w' => e = .returned (.int .i64 (1 + 2 * q)) ∧ Below W.heap.size W w') := fun W h => heldM_row _ q g7 1 W (by omega) (by omega) h
  have hk1 : ¬ (1 + 2 * (q : Int)) < 0 := by omega
  have hkk : ((1 + 2 * (q : Int)) != (1 + 2 * (q : Int))) = false := by simp
  go_wp2_with fail
  refine (HHK.out _ HK.out).mono ?_
  rintro e w14 ⟨rfl, hb14⟩
  have hb9 := hb14
  (try replace HA := Lib.hid (HA.out.below hb9 HA.out.lt))
  (try replace HO := Lib.hid (HO.out.below hb9 (Nat.le_refl _)))
  (try replace H4 := Lib.hid (H4.out.below hb9))
  (try replace H5 := Lib.hid (H5.out.below hb9))
  (try replace H6 := Lib.hid (H6.out.below hb9))
  (try replace HK := Lib.hid (HK.out.below hb9))
  (try replace H10 := Lib.hid (H10.out.below hb9))
  replace HB := Lib.hid (HB.out.trans (hb9.mono HB.out.size))
  clear hb9
  have hz14 : w13.heap.size ≤ w14.heap.size := hb14.size
  clear hb14
  have hac := HA.out.cell
  go_wp2_with fail
  -- another call
  refine (HTL.out _ HB.out).mono ?_
  rintro e w15 ⟨u15, rfl, ho15, hb15⟩
  have hb9 := hb15
  (try replace HA := Lib.hid (HA.out.below hb9 HA.out.lt))
  (try replace HO := Lib.hid (HO.out.below hb9 (Nat.le_refl _)))
  (try replace H4 := Lib.hid (H4.out.below hb9))
  (try replace H5 := Lib.hid (H5.out.below hb9))
  (try replace H6 := Lib.hid (H6.out.below hb9))
  (try replace HK := Lib.hid (HK.out.below hb9))
  (try replace H10 := Lib.hid (H10.out.below hb9))
  replace HB := Lib.hid (HB.out.trans (hb9.mono HB.out.size))
  clear hb9
  clear hb15 hac
  obtain ⟨va15, vb15, ga15, gb15, rfl, _⟩ := ho15.new
  have HO := Lib.hid ho15
  clear ho15
  go_wp2_with fail
  refine (LnO.fi HO.out (by omega) (by omega)).mono ?_
  rintro e w16 ⟨⟨v16, g16, rfl, hr16, _⟩, hb16⟩
  rw [← HQ.out] at hr16
  rw [← HOKB.out]
  clear HO
  have hb9 := hb16
  (try replace HA := Lib.hid (HA.out.below hb9 HA.out.lt))
  (try replace HO := Lib.hid (HO.out.below hb9 (Nat.le_refl _)))
  (try replace H4 := Lib.hid (H4.out.below hb9))
  (try replace H5 := Lib.hid (H5.out.below hb9))
  (try replace H6 := Lib.hid (H6.out.below hb9))
  (try replace HK := Lib.hid (HK.out.below hb9))
  (try replace H10 := Lib.hid (H10.out.below hb9))
  replace HB := Lib.hid (HB.out.trans (hb9.mono HB.out.size))
  clear hb9
  clear hb16
  have H10 := Lib.hid hr16
  obtain ⟨a16, c16, rfl⟩ := hr16.shape
  clear hr16
  go_wp2_with fail
  refine (eqMoveS_ML _ _ q _ _ _ (by omega) H10.out.reads H4.out.reads).mono ?_
  rintro e w17 ⟨rfl, hb17⟩
  have hb9 := hb17
  (try replace HA := Lib.hid (HA.out.below hb9 HA.out.lt))
  (try replace HO := Lib.hid (HO.out.below hb9 (Nat.le_refl _)))
  (try replace H4 := Lib.hid (H4.out.below hb9))
  (try replace H5 := Lib.hid (H5.out.below hb9))
  (try replace H6 := Lib.hid (H6.out.below hb9))
  (try replace HK := Lib.hid (HK.out.below hb9))
  (try replace H10 := Lib.hid (H10.out.below hb9))
  replace HB := Lib.hid (HB.out.trans (hb9.mono HB.out.size))
  clear hb9
  clear hb17
  go_wp2_with fail
  refine (HHK.out _ HK.out).mono ?_
  rintro e w18 ⟨rfl, hb18⟩
  have hb9 := hb18
  (try replace HA := Lib.hid (HA.out.below hb9 HA.out.lt))
  (try replace HO := Lib.hid (HO.out.below hb9 (Nat.le_refl _)))
  (try replace H4 := Lib.hid (H4.out.below hb9))
  (try replace H5 := Lib.hid (H5.out.below hb9))
  (try replace H6 := Lib.hid (H6.out.below hb9))
  (try replace HK := Lib.hid (HK.out.below hb9))
  (try replace H10 := Lib.hid (H10.out.below hb9))
  replace HB := Lib.hid (HB.out.trans (hb9.mono HB.out.size))
  clear hb9
  clear hb18
  go_wp2_with fail
  go_ret
  exact ⟨rfl, HB.out⟩
end Go.Proofs.Ytbachpfgakjncaa
