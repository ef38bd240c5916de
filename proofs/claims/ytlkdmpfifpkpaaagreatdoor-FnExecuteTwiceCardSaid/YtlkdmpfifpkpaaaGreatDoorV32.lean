/-
  Parts of the proof: Zm. No condition.
-/
import Derived.Test.YtlkdmpfifpkpaaaGreatDoorV31
namespace Go.Proofs.YtlkdmpfifpkpaaaGreatDoor
open Go.RowKit
theorem ixC_self : ∀ j, j < 9 → ixC (cmW j) = j := by
 intro j hj
 match j, hj with
 | 0, _ => decide +kernel
 | 1, _ => decide +kernel
 | 2, _ => decide +kernel
 | 3, _ => decide +kernel
 | 4, _ => decide +kernel
 | 5, _ => decide +kernel
 | 6, _ => decide +kernel
 | 7, _ => decide +kernel
 | 8, _ => decide +kernel
theorem ixC_le (w0 : ByteArray) : ixC w0 ≤ 9 := by
 unfold ixC
 exact Nat.le_trans List.findIdx_le_length (by simp)
theorem ixC_cmW {w0 : ByteArray} (h : ixC w0 < 9) : (w0.toList == (cmW (ixC w0)).toList) = true := by
 have h2 : List.findIdx (fun k => (cmW k).toList == w0.toList) (List.range 9) < (List.range 9).length := by
  have : ixC w0 < 9 := h
  unfold ixC at this
  simpa using this
 have h3 := List.findIdx_getElem (w := h2)
 rw [List.getElem_range] at h3
 have h4 : (cmW (ixC w0)).toList = w0.toList := eq_of_beq h3
 rw [h4]
 simp
theorem ix_beq (w0 : ByteArray) {j : Nat} (hj : j < 9) : (w0.toList == (cmW j).toList) = decide (ixC w0 = j) := by
 by_cases h : ixC w0 = j
 ·rw [decide_eq_true h, ← h]
  exact ixC_cmW (by omega)
 ·rw [decide_eq_false h]
  cases e : (w0.toList == (cmW j).toList)
  ·rfl
  ·exfalso
   apply h
   have e2 : w0.toList = (cmW j).toList := by simpa using e
   have e3 : w0 = cmW j := ba_ext (by rw [← ByteArray.toList_eq, ← ByteArray.toList_eq]; exact e2)
   rw [e3]
   exact ixC_self j hj
theorem cmW_l0 : (cmW 0).toList = [108, 105, 110, 101] := by rw [ByteArray.toList_eq]; rfl
theorem cmW_l1 : (cmW 1).toList = [119, 97, 105, 116] := by rw [ByteArray.toList_eq]; rfl
theorem cmW_l2 : (cmW 2).toList = [100, 111] := by rw [ByteArray.toList_eq]; rfl
theorem cmW_l3 : (cmW 3).toList = [102, 105, 110, 105, 115, 104] := by rw [ByteArray.toList_eq]; rfl
theorem cmW_l4 : (cmW 4).toList = [119, 104, 101, 114, 101] := by rw [ByteArray.toList_eq]; rfl
theorem cmW_l5 : (cmW 5).toList = [110, 101, 120, 116] := by rw [ByteArray.toList_eq]; rfl
theorem cmW_l6 : (cmW 6).toList = [98, 111, 111, 107] := by rw [ByteArray.toList_eq]; rfl
theorem cmW_l7 : (cmW 7).toList = [102, 105, 116] := by rw [ByteArray.toList_eq]; rfl
theorem cmW_l8 : (cmW 8).toList = [98, 117, 115, 121] := by rw [ByteArray.toList_eq]; rfl
theorem wd_y0 {w0 : ByteArray} (h : ixC w0 = 0) : w0.toList = [108, 105, 110, 101] := by have q := ix_beq w0 (j := 0) (by omega); rw [decide_eq_true h, cmW_l0] at q; exact eq_of_beq q
theorem wd_y1 {w0 : ByteArray} (h : ixC w0 = 1) : w0.toList = [119, 97, 105, 116] := by have q := ix_beq w0 (j := 1) (by omega); rw [decide_eq_true h, cmW_l1] at q; exact eq_of_beq q
theorem wd_y2 {w0 : ByteArray} (h : ixC w0 = 2) : w0.toList = [100, 111] := by have q := ix_beq w0 (j := 2) (by omega); rw [decide_eq_true h, cmW_l2] at q; exact eq_of_beq q
theorem wd_y3 {w0 : ByteArray} (h : ixC w0 = 3) : w0.toList = [102, 105, 110, 105, 115, 104] := by have q := ix_beq w0 (j := 3) (by omega); rw [decide_eq_true h, cmW_l3] at q; exact eq_of_beq q
theorem wd_y4 {w0 : ByteArray} (h : ixC w0 = 4) : w0.toList = [119, 104, 101, 114, 101] := by have q := ix_beq w0 (j := 4) (by omega); rw [decide_eq_true h, cmW_l4] at q; exact eq_of_beq q
theorem wd_y5 {w0 : ByteArray} (h : ixC w0 = 5) : w0.toList = [110, 101, 120, 116] := by have q := ix_beq w0 (j := 5) (by omega); rw [decide_eq_true h, cmW_l5] at q; exact eq_of_beq q
theorem wd_y6 {w0 : ByteArray} (h : ixC w0 = 6) : w0.toList = [98, 111, 111, 107] := by have q := ix_beq w0 (j := 6) (by omega); rw [decide_eq_true h, cmW_l6] at q; exact eq_of_beq q
theorem wd_y7 {w0 : ByteArray} (h : ixC w0 = 7) : w0.toList = [102, 105, 116] := by have q := ix_beq w0 (j := 7) (by omega); rw [decide_eq_true h, cmW_l7] at q; exact eq_of_beq q
theorem wd_y8 {w0 : ByteArray} (h : ixC w0 = 8) : w0.toList = [98, 117, 115, 121] := by have q := ix_beq w0 (j := 8) (by omega); rw [decide_eq_true h, cmW_l8] at q; exact eq_of_beq q
theorem wd_n0 {w0 : ByteArray} (h : ¬ ixC w0 = 0) : ¬ w0.toList = [108, 105, 110, 101] := fun e => by have q := ix_beq w0 (j := 0) (by omega); rw [decide_eq_false h, cmW_l0, e] at q; simp at q
theorem wd_n1 {w0 : ByteArray} (h : ¬ ixC w0 = 1) : ¬ w0.toList = [119, 97, 105, 116] := fun e => by have q := ix_beq w0 (j := 1) (by omega); rw [decide_eq_false h, cmW_l1, e] at q; simp at q
theorem wd_n2 {w0 : ByteArray} (h : ¬ ixC w0 = 2) : ¬ w0.toList = [100, 111] := fun e => by have q := ix_beq w0 (j := 2) (by omega); rw [decide_eq_false h, cmW_l2, e] at q; simp at q
theorem wd_n3 {w0 : ByteArray} (h : ¬ ixC w0 = 3) : ¬ w0.toList = [102, 105, 110, 105, 115, 104] := fun e => by have q := ix_beq w0 (j := 3) (by omega); rw [decide_eq_false h, cmW_l3, e] at q; simp at q
theorem wd_n4 {w0 : ByteArray} (h : ¬ ixC w0 = 4) : ¬ w0.toList = [119, 104, 101, 114, 101] := fun e => by have q := ix_beq w0 (j := 4) (by omega); rw [decide_eq_false h, cmW_l4, e] at q; simp at q
theorem wd_n5 {w0 : ByteArray} (h : ¬ ixC w0 = 5) : ¬ w0.toList = [110, 101, 120, 116] := fun e => by have q := ix_beq w0 (j := 5) (by omega); rw [decide_eq_false h, cmW_l5, e] at q; simp at q
theorem wd_n6 {w0 : ByteArray} (h : ¬ ixC w0 = 6) : ¬ w0.toList = [98, 111, 111, 107] := fun e => by have q := ix_beq w0 (j := 6) (by omega); rw [decide_eq_false h, cmW_l6, e] at q; simp at q
theorem wd_n7 {w0 : ByteArray} (h : ¬ ixC w0 = 7) : ¬ w0.toList = [102, 105, 116] := fun e => by have q := ix_beq w0 (j := 7) (by omega); rw [decide_eq_false h, cmW_l7, e] at q; simp at q
theorem wd_n8 {w0 : ByteArray} (h : ¬ ixC w0 = 8) : ¬ w0.toList = [98, 117, 115, 121] := fun e => by have q := ix_beq w0 (j := 8) (by omega); rw [decide_eq_false h, cmW_l8, e] at q; simp at q
def askX (st : Ses) (ps : List Pt) (tx : Nat → ByteArray) : Nat → ByteArray
  | 4 => whO st
  | 5 => nxO st
  | 6 => bkX st (nmF (tx 1))
  | 8 => byX st ps (nmF (tx 1))
  | _ => whatT
theorem cmdK_hit {w0 : ByteArray} {i n : Nat} (h : ixC w0 = i) (hi : i < 9) (hn : cmN i < 0 ∨ cmN i = n) : cmdK w0 n = i := by
 subst h
 exact if_pos ⟨hi, hn⟩
theorem cmdK_miss {w0 : ByteArray} {i n : Nat} (h : ixC w0 = i) (hn : ¬ i < 9 ∨ ¬ (cmN i < 0 ∨ cmN i = n)) : cmdK w0 n = 9 := by
 subst h
 exact if_neg (fun q => by rcases hn with hn | hn; exact hn q.1; exact hn q.2)
set_option linter.unusedSimpArgs false in
set_option maxRecDepth 100000 in
set_option maxHeartbeats 4000000 in
theorem l9Ask_any (g1 c1 g2 c2 gm cm gt ct c0 bw cw q : Nat) (ao : Option Addr) (st : Ses) (ps : List Pt) (tx : Nat → ByteArray) (w : World) (hM : SpM w g1 g2 gm gt ao st ps) (hk : SesOk st) (hp : PsOk st.x.n ps) (hq : q < 1000000) (hw : ∀ i, i < q + 1 → w.cell? ⟨bw, i, none⟩ = some (.string (tx i))) :
    Calls Tryz.prog 64 #[.agg #[.slice (some ⟨g1, 0, none⟩) st.x.n c1, .slice (some ⟨g2, 0, none⟩) st.x.m c2, .slice (some ⟨gm, 0, none⟩) st.ms.length cm, .slice (some ⟨gt, 0, none⟩) st.ts.length ct, .int .i64 st.tm, .slice ao ps.length c0], .slice (some ⟨bw, 0, none⟩) (q + 1) cw] w fun e w' => e = .returned (.string (askX st ps tx (cmdK (tx 0) (q + 1)) ++ ⟨#[10]⟩)) ∧ Below w.heap.size w w' := by
  have HB1 : Hid (Below w.heap.size w (w.alloc (.cells #[.slice (some ⟨g1, 0, none⟩) st.x.n c1, .slice (some ⟨g2, 0, none⟩) st.x.m c2, .slice (some ⟨gm, 0, none⟩) st.ms.length cm, .slice (some ⟨gt, 0, none⟩) st.ts.length ct, .int .i64 st.tm, .slice ao ps.length c0] 68))) := below_all _ _
  have HX0 : Hid (Bx (w.alloc (.cells #[.slice (some ⟨g1, 0, none⟩) st.x.n c1, .slice (some ⟨g2, 0, none⟩) st.x.m c2, .slice (some ⟨gm, 0, none⟩) st.ms.length cm, .slice (some ⟨gt, 0, none⟩) st.ts.length ct, .int .i64 st.tm, .slice ao ps.length c0] 68)) w.heap.size 68 #[.slice (some ⟨g1, 0, none⟩) st.x.n c1, .slice (some ⟨g2, 0, none⟩) st.x.m c2, .slice (some ⟨gm, 0, none⟩) st.ms.length cm, .slice (some ⟨gt, 0, none⟩) st.ts.length ct, .int .i64 st.tm, .slice ao ps.length c0]) := Bx.new _ _ _
  have HM := Lib.hid hM
  have hbl : bw < w.heap.size := World.block_lt_of_cell? w ⟨bw, 0, none⟩ (hw 0 (by omega))
  have HW : Hid (∀ W, Below w.heap.size w W → ∀ i, i < q + 1 → W.cell? ⟨bw, i, none⟩ = some (.string (tx i))) := fun W h i hi => by rw [h.cell (p := ⟨bw, i, none⟩) hbl]; exact hw i hi
  have HNB := Lib.hid (l9Numbers_any bw cw q tx (w.alloc (.cells #[.slice (some ⟨g1, 0, none⟩) st.x.n c1, .slice (some ⟨g2, 0, none⟩) st.x.m c2, .slice (some ⟨gm, 0, none⟩) st.ms.length cm, .slice (some ⟨gt, 0, none⟩) st.ts.length ct, .int .i64 st.tm, .slice ao ps.length c0] 68)) hq (HW.out _ HB1.out))
  have hxn := hk.xn
  have HTB : Hid (∀ k, k < st.x.m → 0 ≤ st.x.T k ∧ st.x.T k ≤ 1000000) := fun k hk2 => by
   have hb := vldL_true hk.xv
   have ht := (trOk_true.1 (hb.2.2.2.2.1 k hk2)).1
   omega
  have HWH : Hid (∀ W, Below w.heap.size w W → Calls Tryz.prog 63 #[.slice (some ⟨g2, 0, none⟩) st.x.m c2] W fun e w' => e = .returned (.string (whO st ++ ⟨#[10]⟩)) ∧ Below W.heap.size W w') := fun W h => l9List_any g2 st.x.m c2 st.x.T W (by omega) HTB.out ((hM.keep h).tr)
  have HNX : Hid (∀ W, Below w.heap.size w W → Calls Tryz.prog 87 #[.agg #[.slice (some ⟨g1, 0, none⟩) st.x.n c1, .slice (some ⟨g2, 0, none⟩) st.x.m c2, .slice (some ⟨gm, 0, none⟩) st.ms.length cm, .slice (some ⟨gt, 0, none⟩) st.ts.length ct, .int .i64 st.tm, .slice ao ps.length c0]] W fun e w' => e = .returned (.string (nxO st ++ ⟨#[10]⟩)) ∧ Below W.heap.size W w') := fun W h => l9Next_any g1 c1 g2 c2 gm cm gt ct c0 ao st ps W (hM.keep h) (by omega)
  have HBK : Hid (∀ W k, Below w.heap.size w W → Calls Tryz.prog 88 #[.agg #[.slice (some ⟨g1, 0, none⟩) st.x.n c1, .slice (some ⟨g2, 0, none⟩) st.x.m c2, .slice (some ⟨gm, 0, none⟩) st.ms.length cm, .slice (some ⟨gt, 0, none⟩) st.ts.length ct, .int .i64 st.tm, .slice ao ps.length c0], .int .i64 k] W fun e w' => e = .returned (.string (bkX st k ++ ⟨#[10]⟩)) ∧ Below W.heap.size W w') := fun W k h => l9Book_any g1 c1 g2 c2 gm cm gt ct c0 ao st ps k W (hM.keep h) hk.tl (by have := hk.ml; omega)
  have HBY : Hid (∀ W k, Below w.heap.size w W → Calls Tryz.prog 89 #[.agg #[.slice (some ⟨g1, 0, none⟩) st.x.n c1, .slice (some ⟨g2, 0, none⟩) st.x.m c2, .slice (some ⟨gm, 0, none⟩) st.ms.length cm, .slice (some ⟨gt, 0, none⟩) st.ts.length ct, .int .i64 st.tm, .slice ao ps.length c0], .int .i64 k] W fun e w' => e = .returned (.string (byX st ps k ++ ⟨#[10]⟩)) ∧ Below W.heap.size W w') := fun W k h => l9Busy_any g1 c1 g2 c2 gm cm gt ct c0 ao st ps k W (hM.keep h) hp
  have HNY4 : Hid (ixC (tx 0) = 4 → (tx 0).toList = [119, 104, 101, 114, 101]) := wd_y4
  have HNY5 : Hid (ixC (tx 0) = 5 → (tx 0).toList = [110, 101, 120, 116]) := wd_y5
  have HNY6 : Hid (ixC (tx 0) = 6 → (tx 0).toList = [98, 111, 111, 107]) := wd_y6
  have HNY8 : Hid (ixC (tx 0) = 8 → (tx 0).toList = [98, 117, 115, 121]) := wd_y8
  have HNN4 : Hid (¬ ixC (tx 0) = 4 → ¬ (tx 0).toList = [119, 104, 101, 114, 101]) := wd_n4
  have HNN5 : Hid (¬ ixC (tx 0) = 5 → ¬ (tx 0).toList = [110, 101, 120, 116]) := wd_n5
  have HNN6 : Hid (¬ ixC (tx 0) = 6 → ¬ (tx 0).toList = [98, 111, 111, 107]) := wd_n6
  have HNN8 : Hid (¬ ixC (tx 0) = 8 → ¬ (tx 0).toList = [98, 117, 115, 121]) := wd_n8
  have hil := ixC_le (tx 0)
  have HH : Hid (∀ i, ixC (tx 0) = i → i < 9 → cmN i < 0 ∨ cmN i = ((q + 1 : Nat) : Int) → cmdK (tx 0) (q + 1) = i) := fun i h1 h2 h3 => cmdK_hit h1 h2 h3
  have HMI : Hid (∀ i, ixC (tx 0) = i → ¬ i < 9 ∨ ¬ (cmN i < 0 ∨ cmN i = ((q + 1 : Nat) : Int)) → cmdK (tx 0) (q + 1) = 9) := fun i h1 h3 => cmdK_miss h1 h3
  have HK0 : Hid (∀ i, ixC (tx 0) = i → cmdK (tx 0) (q + 1) = i ∨ cmdK (tx 0) (q + 1) = 9) := fun i h => by
   unfold cmdK
   rw [h]
   split
   ·exact .inl rfl
   ·exact .inr rfl
  have HSN : Hid (∀ k, k ≠ 4 → k ≠ 5 → k ≠ 6 → k ≠ 8 → askX st ps tx k = whatT) := fun k h4 h5 h6 h8 => by
   unfold askX
   split <;> first | rfl | (exfalso; omega)
  clear hk hp hw hM HTB
  generalize cmdK (tx 0) (q + 1) = K0 at *
  generalize ixC (tx 0) = i at *
  by_cases h4 : i = 4
  ·have hy := HNY4.out h4
   go_enter Tryz.func64, Tryz.ntmps64
   go_wp2_with fail
   refine HNB.out.mono ?_
   rintro e w2 ⟨⟨gn, cn, rfl, hnc, hgz, hgl, _⟩, hb2⟩
   have HB2 := Lib.hid (HB1.out.trans (hb2.mono HB1.out.size))
   have HX2 := Lib.hid (HX0.out.below hb2 HX0.out.lt)
   have hxc := HX2.out.cell
   have hw0 := HW.out _ HB2.out 0 (by omega)
   have HNC := Lib.hid hnc
   clear hb2 hnc
   by_cases hq0 : q = 0
   ·have HK : Hid (askX st ps tx K0 = whO st) := by show _ = _; rw [HH.out 4 h4 (by omega) (.inr (by rw [hq0]; rfl))]; rfl
    have hqb : ((q : Int) == 0) = true := beq_iff_eq.2 (by omega)
    have hqi : (0 : Int) < 0 + 1 := by omega
    have HQ := Lib.hid hq0
    clear hq0
    go_wp2_with fail
    refine (HWH.out _ HB2.out).mono ?_
    rintro e w3 ⟨rfl, hb3⟩
    have HB3 := Lib.hid (HB2.out.trans (hb3.mono HB2.out.size))
    clear hb3 hxc
    go_wp2_with fail
    go_ret
    exact ⟨by rw [HK.out]; rfl, HB3.out⟩
   ·have hqb : ((q : Int) == 0) = false := beq_eq_false_iff_ne.2 (by omega)
    have HK : Hid (askX st ps tx K0 = whatT) := by
     show _ = _
     rw [HMI.out 4 h4 (.inr (by show ¬ (_ ∨ _); intro e; rcases e with e | e <;> revert e <;> simp only [cmN] <;> omega))]
     rfl
    go_wp2_with fail
    go_ret
    exact ⟨by rw [HK.out]; rfl, HB2.out⟩
  by_cases h5 : i = 5
  ·have hy := HNY5.out h5
   go_enter Tryz.func64, Tryz.ntmps64
   go_wp2_with fail
   refine HNB.out.mono ?_
   rintro e w2 ⟨⟨gn, cn, rfl, hnc, hgz, hgl, _⟩, hb2⟩
   have HB2 := Lib.hid (HB1.out.trans (hb2.mono HB1.out.size))
   have HX2 := Lib.hid (HX0.out.below hb2 HX0.out.lt)
   have hxc := HX2.out.cell
   have hw0 := HW.out _ HB2.out 0 (by omega)
   have HNC := Lib.hid hnc
   clear hb2 hnc
   by_cases hq0 : q = 0
   ·have HK : Hid (askX st ps tx K0 = nxO st) := by show _ = _; rw [HH.out 5 h5 (by omega) (.inr (by rw [hq0]; rfl))]; rfl
    have hqb : ((q : Int) == 0) = true := beq_iff_eq.2 (by omega)
    have hqi : (0 : Int) < 0 + 1 := by omega
    have HQ := Lib.hid hq0
    clear hq0
    go_wp2_with fail
    refine (HNX.out _ HB2.out).mono ?_
    rintro e w3 ⟨rfl, hb3⟩
    have HB3 := Lib.hid (HB2.out.trans (hb3.mono HB2.out.size))
    clear hb3 hxc
    go_wp2_with fail
    go_ret
    exact ⟨by rw [HK.out]; rfl, HB3.out⟩
   ·have hqb : ((q : Int) == 0) = false := beq_eq_false_iff_ne.2 (by omega)
    have HK : Hid (askX st ps tx K0 = whatT) := by
     show _ = _
     rw [HMI.out 5 h5 (.inr (by show ¬ (_ ∨ _); intro e; rcases e with e | e <;> revert e <;> simp only [cmN] <;> omega))]
     rfl
    go_wp2_with fail
    go_ret
    exact ⟨by rw [HK.out]; rfl, HB2.out⟩
  by_cases h6 : i = 6
  ·have hy := HNY6.out h6
   go_enter Tryz.func64, Tryz.ntmps64
   go_wp2_with fail
   refine HNB.out.mono ?_
   rintro e w2 ⟨⟨gn, cn, rfl, hnc, hgz, hgl, _⟩, hb2⟩
   have HB2 := Lib.hid (HB1.out.trans (hb2.mono HB1.out.size))
   have HX2 := Lib.hid (HX0.out.below hb2 HX0.out.lt)
   have hxc := HX2.out.cell
   have hw0 := HW.out _ HB2.out 0 (by omega)
   have HNC := Lib.hid hnc
   clear hb2 hnc
   by_cases hq0 : q = 1
   ·have HK : Hid (askX st ps tx K0 = bkX st (nmF (tx 1))) := by show _ = _; rw [HH.out 6 h6 (by omega) (.inr (by rw [hq0]; rfl))]; rfl
    have hqb : ((q : Int) == 1) = true := beq_iff_eq.2 (by omega)
    have hqi : (0 : Int) < 1 + 1 := by omega
    have HQ := Lib.hid hq0
    clear hq0
    go_wp2_with fail
    have hq1 : (0 : Int) < (q : Int) := by have := HQ.out; omega
    have hq1n : 0 < q := by have := HQ.out; omega
    have hn1 : w2.cell? ⟨gn, 0, none⟩ = some (.int .i64 (nmF (tx 1))) := HNC.out 0 (by omega)
    have HBd : Hid (Below w2.heap.size w2 w2.drew) := (Below.refl _ _).drew
    have HSS : Hid (∀ W, Below w2.heap.size w2 W → (∀ o, W.cell? ⟨w.heap.size, o, none⟩ = (#[.slice (some ⟨g1, 0, none⟩) st.x.n c1, .slice (some ⟨g2, 0, none⟩) st.x.m c2, .slice (some ⟨gm, 0, none⟩) st.ms.length cm, .slice (some ⟨gt, 0, none⟩) st.ts.length ct, .int .i64 st.tm, .slice ao ps.length c0] : Array Value)[o]?) ∧ W.cell? ⟨gn, 0, none⟩ = some (.int .i64 (nmF (tx 1)))) := fun W h => ⟨(HX2.out.below h HX2.out.lt).cell, by rw [h.cell (p := ⟨gn, 0, none⟩) hgl]; exact hn1⟩
    refine wp_region_held_drew (S := fun W => (∀ o, W.cell? ⟨w.heap.size, o, none⟩ = (#[.slice (some ⟨g1, 0, none⟩) st.x.n c1, .slice (some ⟨g2, 0, none⟩) st.x.m c2, .slice (some ⟨gm, 0, none⟩) st.ms.length cm, .slice (some ⟨gt, 0, none⟩) st.ts.length ct, .int .i64 st.tm, .slice ao ps.length c0] : Array Value)[o]?) ∧ W.cell? ⟨gn, 0, none⟩ = some (.int .i64 (nmF (tx 1)))) (by kernel_rfl) (HSS.out _ HBd.out) (fun hHeld => ?_)
    refine tkR 0 ?_
    refine tkR 1 ?_
    refine tkR 2 ?_
    refine tkR 3 ?_
    refine r1R 4 (fun K hK => ?_)
    go_simp
    go_at_call 88
    go_must (refine Calls.mono (HBK.out _ _ (HB2.out.trans (HBd.out.mono HB2.out.size))) ?_)
    rintro e w3 ⟨rfl, hb3⟩
    have HB23 : Hid (Below w2.heap.size w2 w3) := HBd.out.trans (hb3.mono HBd.out.size)
    have HB3 := Lib.hid (HB2.out.trans (HB23.out.mono HB2.out.size))
    clear hb3
    refine oR hK ?_ (fun hHeld => ?_)
    ·try dsimp only
     exact HSS.out _ HB23.out
    clear hK K
    refine tkR 5 ?_
    refine wpAnyH_done (by kernel_rfl) ?_ _
    clear hHeld
    go_wp2_with fail
    go_ret
    exact ⟨by rw [HK.out]; rfl, HB3.out⟩
   ·have hqb : ((q : Int) == 1) = false := beq_eq_false_iff_ne.2 (by omega)
    have HK : Hid (askX st ps tx K0 = whatT) := by
     show _ = _
     rw [HMI.out 6 h6 (.inr (by show ¬ (_ ∨ _); intro e; rcases e with e | e <;> revert e <;> simp only [cmN] <;> omega))]
     rfl
    go_wp2_with fail
    go_ret
    exact ⟨by rw [HK.out]; rfl, HB2.out⟩
  by_cases h8 : i = 8
  ·have hy := HNY8.out h8
   go_enter Tryz.func64, Tryz.ntmps64
   go_wp2_with fail
   refine HNB.out.mono ?_
   rintro e w2 ⟨⟨gn, cn, rfl, hnc, hgz, hgl, _⟩, hb2⟩
   have HB2 := Lib.hid (HB1.out.trans (hb2.mono HB1.out.size))
   have HX2 := Lib.hid (HX0.out.below hb2 HX0.out.lt)
   have hxc := HX2.out.cell
   have hw0 := HW.out _ HB2.out 0 (by omega)
   have HNC := Lib.hid hnc
   clear hb2 hnc
   by_cases hq0 : q = 1
   ·have HK : Hid (askX st ps tx K0 = byX st ps (nmF (tx 1))) := by show _ = _; rw [HH.out 8 h8 (by omega) (.inr (by rw [hq0]; rfl))]; rfl
    have hqb : ((q : Int) == 1) = true := beq_iff_eq.2 (by omega)
    have hqi : (0 : Int) < 1 + 1 := by omega
    have HQ := Lib.hid hq0
    clear hq0
    go_wp2_with fail
    have hq1 : (0 : Int) < (q : Int) := by have := HQ.out; omega
    have hq1n : 0 < q := by have := HQ.out; omega
    have hn1 : w2.cell? ⟨gn, 0, none⟩ = some (.int .i64 (nmF (tx 1))) := HNC.out 0 (by omega)
    have HBd : Hid (Below w2.heap.size w2 w2.drew) := (Below.refl _ _).drew
    have HSS : Hid (∀ W, Below w2.heap.size w2 W → (∀ o, W.cell? ⟨w.heap.size, o, none⟩ = (#[.slice (some ⟨g1, 0, none⟩) st.x.n c1, .slice (some ⟨g2, 0, none⟩) st.x.m c2, .slice (some ⟨gm, 0, none⟩) st.ms.length cm, .slice (some ⟨gt, 0, none⟩) st.ts.length ct, .int .i64 st.tm, .slice ao ps.length c0] : Array Value)[o]?) ∧ W.cell? ⟨gn, 0, none⟩ = some (.int .i64 (nmF (tx 1)))) := fun W h => ⟨(HX2.out.below h HX2.out.lt).cell, by rw [h.cell (p := ⟨gn, 0, none⟩) hgl]; exact hn1⟩
    refine wp_region_held_drew (S := fun W => (∀ o, W.cell? ⟨w.heap.size, o, none⟩ = (#[.slice (some ⟨g1, 0, none⟩) st.x.n c1, .slice (some ⟨g2, 0, none⟩) st.x.m c2, .slice (some ⟨gm, 0, none⟩) st.ms.length cm, .slice (some ⟨gt, 0, none⟩) st.ts.length ct, .int .i64 st.tm, .slice ao ps.length c0] : Array Value)[o]?) ∧ W.cell? ⟨gn, 0, none⟩ = some (.int .i64 (nmF (tx 1)))) (by kernel_rfl) (HSS.out _ HBd.out) (fun hHeld => ?_)
    refine tkR 0 ?_
    refine tkR 1 ?_
    refine tkR 2 ?_
    refine tkR 3 ?_
    refine r1R 4 (fun K hK => ?_)
    go_simp
    go_at_call 89
    go_must (refine Calls.mono (HBY.out _ _ (HB2.out.trans (HBd.out.mono HB2.out.size))) ?_)
    rintro e w3 ⟨rfl, hb3⟩
    have HB23 : Hid (Below w2.heap.size w2 w3) := HBd.out.trans (hb3.mono HBd.out.size)
    have HB3 := Lib.hid (HB2.out.trans (HB23.out.mono HB2.out.size))
    clear hb3
    refine oR hK ?_ (fun hHeld => ?_)
    ·try dsimp only
     exact HSS.out _ HB23.out
    clear hK K
    refine tkR 5 ?_
    refine wpAnyH_done (by kernel_rfl) ?_ _
    clear hHeld
    go_wp2_with fail
    go_ret
    exact ⟨by rw [HK.out]; rfl, HB3.out⟩
   ·have hqb : ((q : Int) == 1) = false := beq_eq_false_iff_ne.2 (by omega)
    have HK : Hid (askX st ps tx K0 = whatT) := by
     show _ = _
     rw [HMI.out 8 h8 (.inr (by show ¬ (_ ∨ _); intro e; rcases e with e | e <;> revert e <;> simp only [cmN] <;> omega))]
     rfl
    go_wp2_with fail
    go_ret
    exact ⟨by rw [HK.out]; rfl, HB2.out⟩
  have hn4 := HNN4.out h4
  have hn5 := HNN5.out h5
  have hn6 := HNN6.out h6
  have hn8 := HNN8.out h8
  have HK : Hid (askX st ps tx K0 = whatT) := HSN.out _ (fun e => by rcases HK0.out i rfl with h | h <;> omega) (fun e => by rcases HK0.out i rfl with h | h <;> omega) (fun e => by rcases HK0.out i rfl with h | h <;> omega) (fun e => by rcases HK0.out i rfl with h | h <;> omega)
  go_enter Tryz.func64, Tryz.ntmps64
  go_wp2_with fail
  refine HNB.out.mono ?_
  rintro e w2 ⟨⟨gn, cn, rfl, hnc, hgz, hgl, _⟩, hb2⟩
  have HB2 := Lib.hid (HB1.out.trans (hb2.mono HB1.out.size))
  have HX2 := Lib.hid (HX0.out.below hb2 HX0.out.lt)
  have hxc := HX2.out.cell
  have hw0 := HW.out _ HB2.out 0 (by omega)
  have HNC := Lib.hid hnc
  clear hb2 hnc
  go_wp2_with fail
  go_ret
  exact ⟨by rw [HK.out]; rfl, HB2.out⟩
end Go.Proofs.YtlkdmpfifpkpaaaGreatDoor

