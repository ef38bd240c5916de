/-
  Parts of the proof: Se. No condition.
-/
import Derived.Test.YtlkdmpfifpkpaaaGreatDoorV14
namespace Go.Proofs.YtlkdmpfifpkpaaaGreatDoor
open Go.RowKit
structure SrML (w wr : World) (v1 v2 : Value) (b6 : Nat) (va vb : Value) : Prop where
  arg : Bx wr w.heap.size 31 #[v1, v2]
  res : Bx wr (w.heap.size + 1) 31 #[.slice none 0 0, .slice none 0 0]
  out : Bx wr b6 31 #[va, vb]
  bl : Below w.heap.size w wr
  z6 : w.heap.size + 2 ≤ b6
def LnZ (z : Nat) (w : World) (va vb : Value) (y : Ln) : Prop :=
 ∃ g1 c1 g2 c2, va = .slice (some ⟨g1, 0, none⟩) y.n c1 ∧ vb = .slice (some ⟨g2, 0, none⟩) y.m c2 ∧ Own w g1 c1 y.n 3 76 (bkF y.N y.I y.O) ∧ Own w g2 c2 y.m 1 3 (fun i => .int .i64 (y.T i)) ∧ g1 ≠ g2 ∧ z ≤ g1 ∧ z ≤ g2
theorem LnZ.below {z D : Nat} {w w' : World} {va vb : Value} {y : Ln} (h : LnZ z w va vb y) (hb : Below D w w') (hD : w.heap.size ≤ D) : LnZ z w' va vb y := by
 obtain ⟨g1, c1, g2, c2, e1, e2, h1, h2, h3⟩ := h
 exact ⟨g1, c1, g2, c2, e1, e2, h1.below hb (Nat.lt_of_lt_of_le h1.lt hD), h2.below hb (Nat.lt_of_lt_of_le h2.lt hD), h3⟩
theorem LnZ.setOther {z : Nat} {w : World} {va vb : Value} {y : Ln} (h : LnZ z w va vb y) {b o : Nat} (hb : ∀ g1 c1 n, va = .slice (some ⟨g1, 0, none⟩) n c1 → b ≠ g1) (hb' : ∀ g2 c2 n, vb = .slice (some ⟨g2, 0, none⟩) n c2 → b ≠ g2) (u : Value) : LnZ z (w.setCell ⟨b, o, none⟩ u) va vb y := by
 obtain ⟨g1, c1, g2, c2, rfl, rfl, h1, h2, h3⟩ := h
 exact ⟨g1, c1, g2, c2, rfl, rfl, h1.setOther (fun e => hb _ _ _ rfl e.symm) _, h2.setOther (fun e => hb' _ _ _ rfl e.symm) _, h3⟩
theorem SrML.below {w wr w' : World} {v1 v2 va vb : Value} {b6 D : Nat} (h : SrML w wr v1 v2 b6 va vb) (hb : Below D wr w') (hD : wr.heap.size ≤ D) : SrML w w' v1 v2 b6 va vb :=
 ⟨h.arg.below hb (Nat.lt_of_lt_of_le h.arg.lt hD), h.res.below hb (Nat.lt_of_lt_of_le h.res.lt hD), h.out.below hb (Nat.lt_of_lt_of_le h.out.lt hD), h.bl.trans (hb.mono (Nat.le_trans h.bl.size hD)), h.z6⟩
theorem SrML.setOther {w wr : World} {v1 v2 va vb : Value} {b6 b o : Nat} (h : SrML w wr v1 v2 b6 va vb) (hb : b ≠ b6) (hz : w.heap.size + 2 ≤ b) (u : Value) : SrML w (wr.setCell ⟨b, o, none⟩ u) v1 v2 b6 va vb :=
 ⟨h.arg.setOther (by dsimp only; omega) _, h.res.setOther (by dsimp only; omega) _, h.out.setOther (fun e => hb e.symm) _, h.bl.setCell (p := ⟨b, o, none⟩) (by dsimp only; omega) _, h.z6⟩
def SeN (w : World) (v1 v2 : Value) (b6 : Nat) (va vb : Value) (s8 s9 : Value) (wx : World) : Prop := ∃ b8, s8 = .pointer (some ⟨b8, 0, none⟩) ∧ s9 = .bool false ∧ SrML w wx v1 v2 b6 va vb
theorem LnZ.mono {z z' : Nat} {w : World} {va vb : Value} {y : Ln} (h : LnZ z w va vb y) (hz : z' ≤ z) : LnZ z' w va vb y := by
 obtain ⟨g1, c1, g2, c2, e1, e2, h1, h2, h3, h4, h5⟩ := h
 exact ⟨g1, c1, g2, c2, e1, e2, h1, h2, h3, by omega, by omega⟩
theorem LnZ.lts {z : Nat} {w : World} {p1 n1 c1 p2 n2 c2 : Nat} {y : Ln} (h : LnZ z w (.slice (some ⟨p1, 0, none⟩) n1 c1) (.slice (some ⟨p2, 0, none⟩) n2 c2) y) : p1 < w.heap.size ∧ p2 < w.heap.size := by
 obtain ⟨g1, c1, g2, c2, e1, e2, h1, h2, h3, h4, h5⟩ := h
 cases e1
 cases e2
 exact ⟨h1.lt, h2.lt⟩
theorem LnZ.done {w wr : World} {p1 c1 p2 c2 : Nat} {y : Ln} (h : LnZ (w.heap.size + 2) wr (.slice (some ⟨p1, 0, none⟩) y.n c1) (.slice (some ⟨p2, 0, none⟩) y.m c2) y) (u0 u1 : Value) :
    LnO w.heap.size ((wr.setCell ⟨w.heap.size + 1, 0, none⟩ u0).setCell ⟨w.heap.size + 1, 1, none⟩ u1) (.agg #[.slice (some ⟨p1, 0, none⟩) y.n c1, .slice (some ⟨p2, 0, none⟩) y.m c2]) y := by
  obtain ⟨g1, c1, g2, c2, e1, e2, h1, h2, h3, h4, h5⟩ := h
  cases e1
  cases e2
  exact ⟨_, _, _, _, rfl, (h1.setOther (by dsimp only; omega) _).setOther (by dsimp only; omega) _, (h2.setOther (by dsimp only; omega) _).setOther (by dsimp only; omega) _, h3, by omega, by omega⟩
theorem SrML.setOut {w wr : World} {v1 v2 va vb : Value} {b6 : Nat} (h : SrML w wr v1 v2 b6 va vb) (u0 u1 : Value) : SrML w ((wr.setCell ⟨b6, 0, none⟩ u0).setCell ⟨b6, 1, none⟩ u1) v1 v2 b6 u0 u1 := by
 have z := h.z6
 exact ⟨(h.arg.setOther (by dsimp only; omega) _).setOther (by dsimp only; omega) _, (h.res.setOther (by dsimp only; omega) _).setOther (by dsimp only; omega) _, bx2 h.out _ _, (h.bl.setCell (p := ⟨b6, 0, none⟩) (by dsimp only; omega) _).setCell (p := ⟨b6, 1, none⟩) (by dsimp only; omega) _, h.z6⟩
def SeY (w : World) (v1 v2 : Value) (b6 : Nat) (va vb : Value) (z : Nat) (y' : Ln) (s8 s9 : Value) (wx : World) : Prop :=
 ∃ b8 p1 e1 p2 e2, s8 = .pointer (some ⟨b8, 0, none⟩) ∧ s9 = .bool true ∧ SrML w wx v1 v2 b6 va vb ∧ Bx wx b8 31 #[.slice (some ⟨p1, 0, none⟩) y'.n e1, .slice (some ⟨p2, 0, none⟩) y'.m e2] ∧ LnZ z wx (.slice (some ⟨p1, 0, none⟩) y'.n e1) (.slice (some ⟨p2, 0, none⟩) y'.m e2) y' ∧ z ≤ b8 ∧ b8 ≠ p1 ∧ b8 ≠ p2 ∧ z ≤ p1 ∧ z ≤ p2
set_option linter.unusedSimpArgs false in
set_option maxRecDepth 100000 in
set_option maxHeartbeats 4000000 in
theorem specLineRun_any (bb bo cb tb tu ct mb mo q mc : Nat) (x : Ln) (M : Nat → Int) (L : Nat → ByteArray) (w : World) (hn : x.n ≤ 1000000000000) (hm : x.m ≤ 1000000000000) (hq : q ≤ 1000000000000) (hbk : BkC w bb bo x.n x.N x.I x.O) (hic : IC w tb tu x.m x.T) (hmv : MvsC w mb mo q M L) :
    Calls Tryz.prog 79 #[.agg #[.slice (some ⟨bb, bo, none⟩) x.n cb, .slice (some ⟨tb, tu, none⟩) x.m ct], .slice (some ⟨mb, mo, none⟩) q mc] w (LrR (rnO x M L q) w) := by
  have HKB : Hid (∀ w', Below w.heap.size w w' → BkC w' bb bo x.n x.N x.I x.O) := fun w' hb => hbk.keep hb
  have HKT : Hid (∀ w', Below w.heap.size w w' → IC w' tb tu x.m x.T) := fun w' hb => hic.keep hb
  have HMV : Hid (∀ w', Below w.heap.size w w' → MvsC w' mb mo q M L) := fun w' hb => hmv.keep hb
  have HBB : Hid (∀ a b, Below w.heap.size w ((w.alloc a).alloc b)) := fun a b => (below_all _ _).alloc (by simp) _
  clear hbk hic hmv
  go_enter Tryz.func79, Tryz.ntmps79
  go_wp2_with fail
  refine (specLineValid_any bb bo cb tb tu ct x _ hn hm (HKB.out _ (HBB.out _ _)) (HKT.out _ (HBB.out _ _))).mono ?_
  rintro e w1 ⟨rfl, hb1⟩
  have HA1 : Hid (Bx w1 w.heap.size 31 #[.slice (some ⟨bb, bo, none⟩) x.n cb, .slice (some ⟨tb, tu, none⟩) x.m ct]) := ((Bx.new w _ _).alloc _).below hb1 (by simp; omega)
  have HX1 : Hid (Bx w1 (w.heap.size + 1) 31 #[.slice none 0 0, .slice none 0 0]) := (Bx.newAt (by simp)).below hb1 (by simp)
  have HB1 : Hid (Below w.heap.size w w1) := (HBB.out _ _).trans (hb1.mono (by simp; omega))
  have hrc := HX1.out.cell
  have hrf := HX1.out.free
  clear hb1
  cases hv : vldL x
  ·have HV : Hid (rnO x M L q = none) := by show _ = _; unfold rnO; rw [hv]; rfl
   clear hv
   go_wp2_with fail
   exact bodyPost_ret (v := .tuple #[nilLn, .bool false]) (by simp [results, Tryz.results79, go_sem, hrc, nilLn]) rfl ⟨(HB1.out.setCell (by dsimp only; omega) _).setCell (by dsimp only; omega) _, .inl ⟨HV.out, rfl⟩⟩
  have HV : Hid (rnO x M L q = runO x M L q) := if_pos hv
  clear hv
  have hzw : w.heap.size + 1 < w1.heap.size := HX1.out.lt
  have hac0 := HA1.out.cell 0
  have hac1 := HA1.out.cell 1
  have hzc : w.heap.size < w1.heap.size := by omega
  have HKBc : Hid (∀ w', Below w1.heap.size w1 w' → BkC w' bb bo x.n x.N x.I x.O) := fun w' hb => HKB.out _ (HB1.out.trans (hb.mono (by omega)))
  have HKTc : Hid (∀ w', Below w1.heap.size w1 w' → IC w' tb tu x.m x.T) := fun w' hb => HKT.out _ (HB1.out.trans (hb.mono (by omega)))
  go_wp2_with fail
  generalize hbase : w1 = wb at *
  clear hbase
  go_cut [6] (CpC wb wb.heap.size x)
  case first =>
   refine wp_region_held_drew (S := (fun w' => w'.cell? ⟨w.heap.size, 0, none⟩ = some (.slice (some ⟨bb, bo, none⟩) x.n cb) ∧ w'.cell? ⟨w.heap.size, 1, none⟩ = some (.slice (some ⟨tb, tu, none⟩) x.m ct))) (by kernel_rfl) ?_ (fun hHeld => ?_)
   ·try dsimp only
    go_keep
   refine tkR 1 ?_
   refine tkR 2 ?_
   refine tkR 5 ?_
   refine tkR 6 ?_
   have HF0 : Hid (CpF wb wb.drew x none none none) := CpF.start wb x
   generalize wb.drew = wd at *
   refine wpAnyH_ready (rs := [0, 4, 9]) (by kernel_rfl) (by simp) ?_
   refine c1R (fun K hK => ?_) ?_
   focus
     go_simp
     have hf := HF0.out.makeB
     try simp only [World.size_alloc] at hf
     have HF1 := Lib.hid hf
     clear hf
     refine oR hK ?_ (fun hHeld => ?_)
     ·exact cpS hac0 hac1 hzc HF1.out.bl
     clear hK K
     refine wpAnyH_ready (rs := [3, 4, 9]) (by kernel_rfl) (by simp) ?_
     refine c1R (fun K hK => ?_) ?_
     focus
       refine step_app elBk rfl (.tmp 14) (.tmp 16) rfl HF1.out.ownB rfl ⟨bb, bo, none⟩ x.n cb rfl (bk_new (HKBc.out _ HF1.out.bl)) (fun _ _ => bkF_one _ _ _ _) (by unfold maxLen; omega) (by omega) ?_
       intro g1 c1 wa1 ho1 hg1 hd1
       rw [Nat.zero_add] at ho1
       have hf := HF1.out.appB ho1 hg1 hd1
       try simp only [World.size_alloc] at hf
       have HF2 := Lib.hid hf
       clear hf
       clear ho1 hg1 hd1
       try simp only [Nat.zero_add]
       refine oR hK ?_ (fun hHeld => ?_)
       ·exact cpS hac0 hac1 hzc HF2.out.bl
       clear hK K
       refine wpAnyH_ready (rs := [4, 9]) (by kernel_rfl) (by simp) ?_
       refine c1R (fun K hK => ?_) ?_
       focus
         go_simp
         have hf := HF2.out.makeI
         try simp only [World.size_alloc] at hf
         have HF3 := Lib.hid hf
         clear hf
         refine oR hK ?_ (fun hHeld => ?_)
         ·exact cpS hac0 hac1 hzc HF3.out.bl
         clear hK K
         refine wpAnyH_ready (rs := [7, 9]) (by kernel_rfl) (by simp) ?_
         refine c1R (fun K hK => ?_) ?_
         focus
           refine step_app elInt rfl (.tmp 18) (.tmp 20) rfl HF3.out.ownI rfl ⟨tb, tu, none⟩ x.m ct rfl (ic_new (HKTc.out _ HF3.out.bl)) (fun _ _ => rfl) (by unfold maxLen; omega) (by omega) ?_
           intro g2 c2 wa2 ho2 hg2 hd2
           rw [Nat.zero_add] at ho2
           have hf := HF3.out.appI ho2 hg2 hd2
           try simp only [World.size_alloc] at hf
           have HF4 := Lib.hid hf
           clear hf
           clear ho2 hg2 hd2
           try simp only [Nat.zero_add]
           refine oR hK ?_ (fun hHeld => ?_)
           ·exact cpS hac0 hac1 hzc HF4.out.bl
           clear hK K
           refine tkR 8 ?_
           refine r1R 9 (fun K hK => ?_)
           go_simp
           have hf := HF4.out.makeL
           try simp only [World.size_alloc] at hf
           have HF5 := Lib.hid hf
           clear hf
           refine oR hK ?_ (fun hHeld => ?_)
           ·exact cpS hac0 hac1 hzc HF5.out.bl
           clear hK K
           have hcp := HF4.out.doneL
           try simp only [World.size_alloc] at hcp
           have HCP := Lib.hid hcp
           clear hcp
           refine r1R 10 (fun K hK => ?_)
           go_simp
           refine oR hK ?_ (fun hHeld => ?_)
           ·try dsimp only
            exact cpS hac0 hac1 hzc HCP.out.bl
           clear hK K
           refine wpAnyH_done (by kernel_rfl) ?_ _
           go_wp2_with fail
           go_meet
           exact HCP.out
         refine c1R (fun K hK => ?_) ?_
         focus
           go_simp
           have hf := HF3.out.makeL
           try simp only [World.size_alloc] at hf
           have HF4 := Lib.hid hf
           clear hf
           refine oR hK ?_ (fun hHeld => ?_)
           ·exact cpS hac0 hac1 hzc HF4.out.bl
           clear hK K
           refine r1R 7 (fun K hK => ?_)
           refine step_app elInt rfl (.tmp 18) (.tmp 20) rfl HF4.out.ownI rfl ⟨tb, tu, none⟩ x.m ct rfl (ic_new (HKTc.out _ HF4.out.bl)) (fun _ _ => rfl) (by unfold maxLen; omega) (by omega) ?_
           intro g2 c2 wa2 ho2 hg2 hd2
           rw [Nat.zero_add] at ho2
           have hf := HF4.out.appI ho2 hg2 hd2
           try simp only [World.size_alloc] at hf
           have HF5 := Lib.hid hf
           clear hf
           clear ho2 hg2 hd2
           try simp only [Nat.zero_add]
           refine oR hK ?_ (fun hHeld => ?_)
           ·exact cpS hac0 hac1 hzc HF5.out.bl
           clear hK K
           refine tkR 8 ?_
           have hcp := HF5.out.doneS
           try simp only [World.size_alloc] at hcp
           have HCP := Lib.hid hcp
           clear hcp
           have hxc := HF5.out.bx.cell
           have hxf := HF5.out.bx.free
           have hxl := HF5.out.bxl
           try simp only [World.size_alloc] at hxc hxf hxl
           refine r1R 10 (fun K hK => ?_)
           go_simp
           refine oR hK ?_ (fun hHeld => ?_)
           ·try dsimp only
            exact cpS hac0 hac1 hzc HCP.out.bl
           clear hK K
           refine wpAnyH_done (by kernel_rfl) ?_ _
           go_wp2_with fail
           go_meet
           exact HCP.out
         exact AllReadyH.nil
       refine c1R (fun K hK => ?_) ?_
       focus
         go_simp
         have hf := HF2.out.makeL
         try simp only [World.size_alloc] at hf
         have HF3 := Lib.hid hf
         clear hf
         refine oR hK ?_ (fun hHeld => ?_)
         ·exact cpS hac0 hac1 hzc HF3.out.bl
         clear hK K
         refine r1R 4 (fun K hK => ?_)
         go_simp
         have hf := HF3.out.makeI
         try simp only [World.size_alloc] at hf
         have HF4 := Lib.hid hf
         clear hf
         refine oR hK ?_ (fun hHeld => ?_)
         ·exact cpS hac0 hac1 hzc HF4.out.bl
         clear hK K
         refine r1R 7 (fun K hK => ?_)
         refine step_app elInt rfl (.tmp 18) (.tmp 20) rfl HF4.out.ownI rfl ⟨tb, tu, none⟩ x.m ct rfl (ic_new (HKTc.out _ HF4.out.bl)) (fun _ _ => rfl) (by unfold maxLen; omega) (by omega) ?_
         intro g2 c2 wa2 ho2 hg2 hd2
         rw [Nat.zero_add] at ho2
         have hf := HF4.out.appI ho2 hg2 hd2
         try simp only [World.size_alloc] at hf
         have HF5 := Lib.hid hf
         clear hf
         clear ho2 hg2 hd2
         try simp only [Nat.zero_add]
         refine oR hK ?_ (fun hHeld => ?_)
         ·exact cpS hac0 hac1 hzc HF5.out.bl
         clear hK K
         refine tkR 8 ?_
         have hcp := HF5.out.doneS
         try simp only [World.size_alloc] at hcp
         have HCP := Lib.hid hcp
         clear hcp
         have hxc := HF5.out.bx.cell
         have hxf := HF5.out.bx.free
         have hxl := HF5.out.bxl
         try simp only [World.size_alloc] at hxc hxf hxl
         refine r1R 10 (fun K hK => ?_)
         go_simp
         refine oR hK ?_ (fun hHeld => ?_)
         ·try dsimp only
          exact cpS hac0 hac1 hzc HCP.out.bl
         clear hK K
         refine wpAnyH_done (by kernel_rfl) ?_ _
         go_wp2_with fail
         go_meet
         exact HCP.out
       exact AllReadyH.nil
     refine c1R (fun K hK => ?_) ?_
     focus
       go_simp
       have hf := HF1.out.makeI
       try simp only [World.size_alloc] at hf
       have HF2 := Lib.hid hf
       clear hf
       refine oR hK ?_ (fun hHeld => ?_)
       ·exact cpS hac0 hac1 hzc HF2.out.bl
       clear hK K
       refine wpAnyH_ready (rs := [3, 9]) (by kernel_rfl) (by simp) ?_
       refine c1R (fun K hK => ?_) ?_
       focus
         refine step_app elBk rfl (.tmp 14) (.tmp 16) rfl HF2.out.ownB rfl ⟨bb, bo, none⟩ x.n cb rfl (bk_new (HKBc.out _ HF2.out.bl)) (fun _ _ => bkF_one _ _ _ _) (by unfold maxLen; omega) (by omega) ?_
         intro g1 c1 wa1 ho1 hg1 hd1
         rw [Nat.zero_add] at ho1
         have hf := HF2.out.appB ho1 hg1 hd1
         try simp only [World.size_alloc] at hf
         have HF3 := Lib.hid hf
         clear hf
         clear ho1 hg1 hd1
         try simp only [Nat.zero_add]
         refine oR hK ?_ (fun hHeld => ?_)
         ·exact cpS hac0 hac1 hzc HF3.out.bl
         clear hK K
         refine wpAnyH_ready (rs := [7, 9]) (by kernel_rfl) (by simp) ?_
         refine c1R (fun K hK => ?_) ?_
         focus
           refine step_app elInt rfl (.tmp 18) (.tmp 20) rfl HF3.out.ownI rfl ⟨tb, tu, none⟩ x.m ct rfl (ic_new (HKTc.out _ HF3.out.bl)) (fun _ _ => rfl) (by unfold maxLen; omega) (by omega) ?_
           intro g2 c2 wa2 ho2 hg2 hd2
           rw [Nat.zero_add] at ho2
           have hf := HF3.out.appI ho2 hg2 hd2
           try simp only [World.size_alloc] at hf
           have HF4 := Lib.hid hf
           clear hf
           clear ho2 hg2 hd2
           try simp only [Nat.zero_add]
           refine oR hK ?_ (fun hHeld => ?_)
           ·exact cpS hac0 hac1 hzc HF4.out.bl
           clear hK K
           refine tkR 8 ?_
           refine r1R 9 (fun K hK => ?_)
           go_simp
           have hf := HF4.out.makeL
           try simp only [World.size_alloc] at hf
           have HF5 := Lib.hid hf
           clear hf
           refine oR hK ?_ (fun hHeld => ?_)
           ·exact cpS hac0 hac1 hzc HF5.out.bl
           clear hK K
           have hcp := HF4.out.doneL
           try simp only [World.size_alloc] at hcp
           have HCP := Lib.hid hcp
           clear hcp
           refine r1R 10 (fun K hK => ?_)
           go_simp
           refine oR hK ?_ (fun hHeld => ?_)
           ·try dsimp only
            exact cpS hac0 hac1 hzc HCP.out.bl
           clear hK K
           refine wpAnyH_done (by kernel_rfl) ?_ _
           go_wp2_with fail
           go_meet
           exact HCP.out
         refine c1R (fun K hK => ?_) ?_
         focus
           go_simp
           have hf := HF3.out.makeL
           try simp only [World.size_alloc] at hf
           have HF4 := Lib.hid hf
           clear hf
           refine oR hK ?_ (fun hHeld => ?_)
           ·exact cpS hac0 hac1 hzc HF4.out.bl
           clear hK K
           refine r1R 7 (fun K hK => ?_)
           refine step_app elInt rfl (.tmp 18) (.tmp 20) rfl HF4.out.ownI rfl ⟨tb, tu, none⟩ x.m ct rfl (ic_new (HKTc.out _ HF4.out.bl)) (fun _ _ => rfl) (by unfold maxLen; omega) (by omega) ?_
           intro g2 c2 wa2 ho2 hg2 hd2
           rw [Nat.zero_add] at ho2
           have hf := HF4.out.appI ho2 hg2 hd2
           try simp only [World.size_alloc] at hf
           have HF5 := Lib.hid hf
           clear hf
           clear ho2 hg2 hd2
           try simp only [Nat.zero_add]
           refine oR hK ?_ (fun hHeld => ?_)
           ·exact cpS hac0 hac1 hzc HF5.out.bl
           clear hK K
           refine tkR 8 ?_
           have hcp := HF5.out.doneS
           try simp only [World.size_alloc] at hcp
           have HCP := Lib.hid hcp
           clear hcp
           have hxc := HF5.out.bx.cell
           have hxf := HF5.out.bx.free
           have hxl := HF5.out.bxl
           try simp only [World.size_alloc] at hxc hxf hxl
           refine r1R 10 (fun K hK => ?_)
           go_simp
           refine oR hK ?_ (fun hHeld => ?_)
           ·try dsimp only
            exact cpS hac0 hac1 hzc HCP.out.bl
           clear hK K
           refine wpAnyH_done (by kernel_rfl) ?_ _
           go_wp2_with fail
           go_meet
           exact HCP.out
         exact AllReadyH.nil
       refine c1R (fun K hK => ?_) ?_
       focus
         go_simp
         have hf := HF2.out.makeL
         try simp only [World.size_alloc] at hf
         have HF3 := Lib.hid hf
         clear hf
         refine oR hK ?_ (fun hHeld => ?_)
         ·exact cpS hac0 hac1 hzc HF3.out.bl
         clear hK K
         refine r1R 3 (fun K hK => ?_)
         refine step_app elBk rfl (.tmp 14) (.tmp 16) rfl HF3.out.ownB rfl ⟨bb, bo, none⟩ x.n cb rfl (bk_new (HKBc.out _ HF3.out.bl)) (fun _ _ => bkF_one _ _ _ _) (by unfold maxLen; omega) (by omega) ?_
         intro g1 c1 wa1 ho1 hg1 hd1
         rw [Nat.zero_add] at ho1
         have hf := HF3.out.appB ho1 hg1 hd1
         try simp only [World.size_alloc] at hf
         have HF4 := Lib.hid hf
         clear hf
         clear ho1 hg1 hd1
         try simp only [Nat.zero_add]
         refine oR hK ?_ (fun hHeld => ?_)
         ·exact cpS hac0 hac1 hzc HF4.out.bl
         clear hK K
         refine r1R 7 (fun K hK => ?_)
         refine step_app elInt rfl (.tmp 18) (.tmp 20) rfl HF4.out.ownI rfl ⟨tb, tu, none⟩ x.m ct rfl (ic_new (HKTc.out _ HF4.out.bl)) (fun _ _ => rfl) (by unfold maxLen; omega) (by omega) ?_
         intro g2 c2 wa2 ho2 hg2 hd2
         rw [Nat.zero_add] at ho2
         have hf := HF4.out.appI ho2 hg2 hd2
         try simp only [World.size_alloc] at hf
         have HF5 := Lib.hid hf
         clear hf
         clear ho2 hg2 hd2
         try simp only [Nat.zero_add]
         refine oR hK ?_ (fun hHeld => ?_)
         ·exact cpS hac0 hac1 hzc HF5.out.bl
         clear hK K
         refine tkR 8 ?_
         have hcp := HF5.out.doneS
         try simp only [World.size_alloc] at hcp
         have HCP := Lib.hid hcp
         clear hcp
         have hxc := HF5.out.bx.cell
         have hxf := HF5.out.bx.free
         have hxl := HF5.out.bxl
         try simp only [World.size_alloc] at hxc hxf hxl
         refine r1R 10 (fun K hK => ?_)
         go_simp
         refine oR hK ?_ (fun hHeld => ?_)
         ·try dsimp only
          exact cpS hac0 hac1 hzc HCP.out.bl
         clear hK K
         refine wpAnyH_done (by kernel_rfl) ?_ _
         go_wp2_with fail
         go_meet
         exact HCP.out
       exact AllReadyH.nil
     refine c1R (fun K hK => ?_) ?_
     focus
       go_simp
       have hf := HF1.out.makeL
       try simp only [World.size_alloc] at hf
       have HF2 := Lib.hid hf
       clear hf
       refine oR hK ?_ (fun hHeld => ?_)
       ·exact cpS hac0 hac1 hzc HF2.out.bl
       clear hK K
       refine wpAnyH_ready (rs := [3, 4]) (by kernel_rfl) (by simp) ?_
       refine c1R (fun K hK => ?_) ?_
       focus
         refine step_app elBk rfl (.tmp 14) (.tmp 16) rfl HF2.out.ownB rfl ⟨bb, bo, none⟩ x.n cb rfl (bk_new (HKBc.out _ HF2.out.bl)) (fun _ _ => bkF_one _ _ _ _) (by unfold maxLen; omega) (by omega) ?_
         intro g1 c1 wa1 ho1 hg1 hd1
         rw [Nat.zero_add] at ho1
         have hf := HF2.out.appB ho1 hg1 hd1
         try simp only [World.size_alloc] at hf
         have HF3 := Lib.hid hf
         clear hf
         clear ho1 hg1 hd1
         try simp only [Nat.zero_add]
         refine oR hK ?_ (fun hHeld => ?_)
         ·exact cpS hac0 hac1 hzc HF3.out.bl
         clear hK K
         refine r1R 4 (fun K hK => ?_)
         go_simp
         have hf := HF3.out.makeI
         try simp only [World.size_alloc] at hf
         have HF4 := Lib.hid hf
         clear hf
         refine oR hK ?_ (fun hHeld => ?_)
         ·exact cpS hac0 hac1 hzc HF4.out.bl
         clear hK K
         refine r1R 7 (fun K hK => ?_)
         refine step_app elInt rfl (.tmp 18) (.tmp 20) rfl HF4.out.ownI rfl ⟨tb, tu, none⟩ x.m ct rfl (ic_new (HKTc.out _ HF4.out.bl)) (fun _ _ => rfl) (by unfold maxLen; omega) (by omega) ?_
         intro g2 c2 wa2 ho2 hg2 hd2
         rw [Nat.zero_add] at ho2
         have hf := HF4.out.appI ho2 hg2 hd2
         try simp only [World.size_alloc] at hf
         have HF5 := Lib.hid hf
         clear hf
         clear ho2 hg2 hd2
         try simp only [Nat.zero_add]
         refine oR hK ?_ (fun hHeld => ?_)
         ·exact cpS hac0 hac1 hzc HF5.out.bl
         clear hK K
         refine tkR 8 ?_
         have hcp := HF5.out.doneS
         try simp only [World.size_alloc] at hcp
         have HCP := Lib.hid hcp
         clear hcp
         have hxc := HF5.out.bx.cell
         have hxf := HF5.out.bx.free
         have hxl := HF5.out.bxl
         try simp only [World.size_alloc] at hxc hxf hxl
         refine r1R 10 (fun K hK => ?_)
         go_simp
         refine oR hK ?_ (fun hHeld => ?_)
         ·try dsimp only
          exact cpS hac0 hac1 hzc HCP.out.bl
         clear hK K
         refine wpAnyH_done (by kernel_rfl) ?_ _
         go_wp2_with fail
         go_meet
         exact HCP.out
       refine c1R (fun K hK => ?_) ?_
       focus
         go_simp
         have hf := HF2.out.makeI
         try simp only [World.size_alloc] at hf
         have HF3 := Lib.hid hf
         clear hf
         refine oR hK ?_ (fun hHeld => ?_)
         ·exact cpS hac0 hac1 hzc HF3.out.bl
         clear hK K
         refine r1R 3 (fun K hK => ?_)
         refine step_app elBk rfl (.tmp 14) (.tmp 16) rfl HF3.out.ownB rfl ⟨bb, bo, none⟩ x.n cb rfl (bk_new (HKBc.out _ HF3.out.bl)) (fun _ _ => bkF_one _ _ _ _) (by unfold maxLen; omega) (by omega) ?_
         intro g1 c1 wa1 ho1 hg1 hd1
         rw [Nat.zero_add] at ho1
         have hf := HF3.out.appB ho1 hg1 hd1
         try simp only [World.size_alloc] at hf
         have HF4 := Lib.hid hf
         clear hf
         clear ho1 hg1 hd1
         try simp only [Nat.zero_add]
         refine oR hK ?_ (fun hHeld => ?_)
         ·exact cpS hac0 hac1 hzc HF4.out.bl
         clear hK K
         refine r1R 7 (fun K hK => ?_)
         refine step_app elInt rfl (.tmp 18) (.tmp 20) rfl HF4.out.ownI rfl ⟨tb, tu, none⟩ x.m ct rfl (ic_new (HKTc.out _ HF4.out.bl)) (fun _ _ => rfl) (by unfold maxLen; omega) (by omega) ?_
         intro g2 c2 wa2 ho2 hg2 hd2
         rw [Nat.zero_add] at ho2
         have hf := HF4.out.appI ho2 hg2 hd2
         try simp only [World.size_alloc] at hf
         have HF5 := Lib.hid hf
         clear hf
         clear ho2 hg2 hd2
         try simp only [Nat.zero_add]
         refine oR hK ?_ (fun hHeld => ?_)
         ·exact cpS hac0 hac1 hzc HF5.out.bl
         clear hK K
         refine tkR 8 ?_
         have hcp := HF5.out.doneS
         try simp only [World.size_alloc] at hcp
         have HCP := Lib.hid hcp
         clear hcp
         have hxc := HF5.out.bx.cell
         have hxf := HF5.out.bx.free
         have hxl := HF5.out.bxl
         try simp only [World.size_alloc] at hxc hxf hxl
         refine r1R 10 (fun K hK => ?_)
         go_simp
         refine oR hK ?_ (fun hHeld => ?_)
         ·try dsimp only
          exact cpS hac0 hac1 hzc HCP.out.bl
         clear hK K
         refine wpAnyH_done (by kernel_rfl) ?_ _
         go_wp2_with fail
         go_meet
         exact HCP.out
       exact AllReadyH.nil
     exact AllReadyH.nil
   refine c1R (fun K hK => ?_) ?_
   focus
     go_simp
     have hf := HF0.out.makeI
     try simp only [World.size_alloc] at hf
     have HF1 := Lib.hid hf
     clear hf
     refine oR hK ?_ (fun hHeld => ?_)
     ·exact cpS hac0 hac1 hzc HF1.out.bl
     clear hK K
     refine wpAnyH_ready (rs := [0, 9]) (by kernel_rfl) (by simp) ?_
     refine c1R (fun K hK => ?_) ?_
     focus
       go_simp
       have hf := HF1.out.makeB
       try simp only [World.size_alloc] at hf
       have HF2 := Lib.hid hf
       clear hf
       refine oR hK ?_ (fun hHeld => ?_)
       ·exact cpS hac0 hac1 hzc HF2.out.bl
       clear hK K
       refine wpAnyH_ready (rs := [3, 9]) (by kernel_rfl) (by simp) ?_
       refine c1R (fun K hK => ?_) ?_
       focus
         refine step_app elBk rfl (.tmp 14) (.tmp 16) rfl HF2.out.ownB rfl ⟨bb, bo, none⟩ x.n cb rfl (bk_new (HKBc.out _ HF2.out.bl)) (fun _ _ => bkF_one _ _ _ _) (by unfold maxLen; omega) (by omega) ?_
         intro g1 c1 wa1 ho1 hg1 hd1
         rw [Nat.zero_add] at ho1
         have hf := HF2.out.appB ho1 hg1 hd1
         try simp only [World.size_alloc] at hf
         have HF3 := Lib.hid hf
         clear hf
         clear ho1 hg1 hd1
         try simp only [Nat.zero_add]
         refine oR hK ?_ (fun hHeld => ?_)
         ·exact cpS hac0 hac1 hzc HF3.out.bl
         clear hK K
         refine wpAnyH_ready (rs := [7, 9]) (by kernel_rfl) (by simp) ?_
         refine c1R (fun K hK => ?_) ?_
         focus
           refine step_app elInt rfl (.tmp 18) (.tmp 20) rfl HF3.out.ownI rfl ⟨tb, tu, none⟩ x.m ct rfl (ic_new (HKTc.out _ HF3.out.bl)) (fun _ _ => rfl) (by unfold maxLen; omega) (by omega) ?_
           intro g2 c2 wa2 ho2 hg2 hd2
           rw [Nat.zero_add] at ho2
           have hf := HF3.out.appI ho2 hg2 hd2
           try simp only [World.size_alloc] at hf
           have HF4 := Lib.hid hf
           clear hf
           clear ho2 hg2 hd2
           try simp only [Nat.zero_add]
           refine oR hK ?_ (fun hHeld => ?_)
           ·exact cpS hac0 hac1 hzc HF4.out.bl
           clear hK K
           refine tkR 8 ?_
           refine r1R 9 (fun K hK => ?_)
           go_simp
           have hf := HF4.out.makeL
           try simp only [World.size_alloc] at hf
           have HF5 := Lib.hid hf
           clear hf
           refine oR hK ?_ (fun hHeld => ?_)
           ·exact cpS hac0 hac1 hzc HF5.out.bl
           clear hK K
           have hcp := HF4.out.doneL
           try simp only [World.size_alloc] at hcp
           have HCP := Lib.hid hcp
           clear hcp
           refine r1R 10 (fun K hK => ?_)
           go_simp
           refine oR hK ?_ (fun hHeld => ?_)
           ·try dsimp only
            exact cpS hac0 hac1 hzc HCP.out.bl
           clear hK K
           refine wpAnyH_done (by kernel_rfl) ?_ _
           go_wp2_with fail
           go_meet
           exact HCP.out
         refine c1R (fun K hK => ?_) ?_
         focus
           go_simp
           have hf := HF3.out.makeL
           try simp only [World.size_alloc] at hf
           have HF4 := Lib.hid hf
           clear hf
           refine oR hK ?_ (fun hHeld => ?_)
           ·exact cpS hac0 hac1 hzc HF4.out.bl
           clear hK K
           refine r1R 7 (fun K hK => ?_)
           refine step_app elInt rfl (.tmp 18) (.tmp 20) rfl HF4.out.ownI rfl ⟨tb, tu, none⟩ x.m ct rfl (ic_new (HKTc.out _ HF4.out.bl)) (fun _ _ => rfl) (by unfold maxLen; omega) (by omega) ?_
           intro g2 c2 wa2 ho2 hg2 hd2
           rw [Nat.zero_add] at ho2
           have hf := HF4.out.appI ho2 hg2 hd2
           try simp only [World.size_alloc] at hf
           have HF5 := Lib.hid hf
           clear hf
           clear ho2 hg2 hd2
           try simp only [Nat.zero_add]
           refine oR hK ?_ (fun hHeld => ?_)
           ·exact cpS hac0 hac1 hzc HF5.out.bl
           clear hK K
           refine tkR 8 ?_
           have hcp := HF5.out.doneS
           try simp only [World.size_alloc] at hcp
           have HCP := Lib.hid hcp
           clear hcp
           have hxc := HF5.out.bx.cell
           have hxf := HF5.out.bx.free
           have hxl := HF5.out.bxl
           try simp only [World.size_alloc] at hxc hxf hxl
           refine r1R 10 (fun K hK => ?_)
           go_simp
           refine oR hK ?_ (fun hHeld => ?_)
           ·try dsimp only
            exact cpS hac0 hac1 hzc HCP.out.bl
           clear hK K
           refine wpAnyH_done (by kernel_rfl) ?_ _
           go_wp2_with fail
           go_meet
           exact HCP.out
         exact AllReadyH.nil
       refine c1R (fun K hK => ?_) ?_
       focus
         go_simp
         have hf := HF2.out.makeL
         try simp only [World.size_alloc] at hf
         have HF3 := Lib.hid hf
         clear hf
         refine oR hK ?_ (fun hHeld => ?_)
         ·exact cpS hac0 hac1 hzc HF3.out.bl
         clear hK K
         refine r1R 3 (fun K hK => ?_)
         refine step_app elBk rfl (.tmp 14) (.tmp 16) rfl HF3.out.ownB rfl ⟨bb, bo, none⟩ x.n cb rfl (bk_new (HKBc.out _ HF3.out.bl)) (fun _ _ => bkF_one _ _ _ _) (by unfold maxLen; omega) (by omega) ?_
         intro g1 c1 wa1 ho1 hg1 hd1
         rw [Nat.zero_add] at ho1
         have hf := HF3.out.appB ho1 hg1 hd1
         try simp only [World.size_alloc] at hf
         have HF4 := Lib.hid hf
         clear hf
         clear ho1 hg1 hd1
         try simp only [Nat.zero_add]
         refine oR hK ?_ (fun hHeld => ?_)
         ·exact cpS hac0 hac1 hzc HF4.out.bl
         clear hK K
         refine r1R 7 (fun K hK => ?_)
         refine step_app elInt rfl (.tmp 18) (.tmp 20) rfl HF4.out.ownI rfl ⟨tb, tu, none⟩ x.m ct rfl (ic_new (HKTc.out _ HF4.out.bl)) (fun _ _ => rfl) (by unfold maxLen; omega) (by omega) ?_
         intro g2 c2 wa2 ho2 hg2 hd2
         rw [Nat.zero_add] at ho2
         have hf := HF4.out.appI ho2 hg2 hd2
         try simp only [World.size_alloc] at hf
         have HF5 := Lib.hid hf
         clear hf
         clear ho2 hg2 hd2
         try simp only [Nat.zero_add]
         refine oR hK ?_ (fun hHeld => ?_)
         ·exact cpS hac0 hac1 hzc HF5.out.bl
         clear hK K
         refine tkR 8 ?_
         have hcp := HF5.out.doneS
         try simp only [World.size_alloc] at hcp
         have HCP := Lib.hid hcp
         clear hcp
         have hxc := HF5.out.bx.cell
         have hxf := HF5.out.bx.free
         have hxl := HF5.out.bxl
         try simp only [World.size_alloc] at hxc hxf hxl
         refine r1R 10 (fun K hK => ?_)
         go_simp
         refine oR hK ?_ (fun hHeld => ?_)
         ·try dsimp only
          exact cpS hac0 hac1 hzc HCP.out.bl
         clear hK K
         refine wpAnyH_done (by kernel_rfl) ?_ _
         go_wp2_with fail
         go_meet
         exact HCP.out
       exact AllReadyH.nil
     refine c1R (fun K hK => ?_) ?_
     focus
       go_simp
       have hf := HF1.out.makeL
       try simp only [World.size_alloc] at hf
       have HF2 := Lib.hid hf
       clear hf
       refine oR hK ?_ (fun hHeld => ?_)
       ·exact cpS hac0 hac1 hzc HF2.out.bl
       clear hK K
       refine r1R 0 (fun K hK => ?_)
       go_simp
       have hf := HF2.out.makeB
       try simp only [World.size_alloc] at hf
       have HF3 := Lib.hid hf
       clear hf
       refine oR hK ?_ (fun hHeld => ?_)
       ·exact cpS hac0 hac1 hzc HF3.out.bl
       clear hK K
       refine r1R 3 (fun K hK => ?_)
       refine step_app elBk rfl (.tmp 14) (.tmp 16) rfl HF3.out.ownB rfl ⟨bb, bo, none⟩ x.n cb rfl (bk_new (HKBc.out _ HF3.out.bl)) (fun _ _ => bkF_one _ _ _ _) (by unfold maxLen; omega) (by omega) ?_
       intro g1 c1 wa1 ho1 hg1 hd1
       rw [Nat.zero_add] at ho1
       have hf := HF3.out.appB ho1 hg1 hd1
       try simp only [World.size_alloc] at hf
       have HF4 := Lib.hid hf
       clear hf
       clear ho1 hg1 hd1
       try simp only [Nat.zero_add]
       refine oR hK ?_ (fun hHeld => ?_)
       ·exact cpS hac0 hac1 hzc HF4.out.bl
       clear hK K
       refine r1R 7 (fun K hK => ?_)
       refine step_app elInt rfl (.tmp 18) (.tmp 20) rfl HF4.out.ownI rfl ⟨tb, tu, none⟩ x.m ct rfl (ic_new (HKTc.out _ HF4.out.bl)) (fun _ _ => rfl) (by unfold maxLen; omega) (by omega) ?_
       intro g2 c2 wa2 ho2 hg2 hd2
       rw [Nat.zero_add] at ho2
       have hf := HF4.out.appI ho2 hg2 hd2
       try simp only [World.size_alloc] at hf
       have HF5 := Lib.hid hf
       clear hf
       clear ho2 hg2 hd2
       try simp only [Nat.zero_add]
       refine oR hK ?_ (fun hHeld => ?_)
       ·exact cpS hac0 hac1 hzc HF5.out.bl
       clear hK K
       refine tkR 8 ?_
       have hcp := HF5.out.doneS
       try simp only [World.size_alloc] at hcp
       have HCP := Lib.hid hcp
       clear hcp
       have hxc := HF5.out.bx.cell
       have hxf := HF5.out.bx.free
       have hxl := HF5.out.bxl
       try simp only [World.size_alloc] at hxc hxf hxl
       refine r1R 10 (fun K hK => ?_)
       go_simp
       refine oR hK ?_ (fun hHeld => ?_)
       ·try dsimp only
        exact cpS hac0 hac1 hzc HCP.out.bl
       clear hK K
       refine wpAnyH_done (by kernel_rfl) ?_ _
       go_wp2_with fail
       go_meet
       exact HCP.out
     exact AllReadyH.nil
   refine c1R (fun K hK => ?_) ?_
   focus
     go_simp
     have hf := HF0.out.makeL
     try simp only [World.size_alloc] at hf
     have HF1 := Lib.hid hf
     clear hf
     refine oR hK ?_ (fun hHeld => ?_)
     ·exact cpS hac0 hac1 hzc HF1.out.bl
     clear hK K
     refine wpAnyH_ready (rs := [0, 4]) (by kernel_rfl) (by simp) ?_
     refine c1R (fun K hK => ?_) ?_
     focus
       go_simp
       have hf := HF1.out.makeB
       try simp only [World.size_alloc] at hf
       have HF2 := Lib.hid hf
       clear hf
       refine oR hK ?_ (fun hHeld => ?_)
       ·exact cpS hac0 hac1 hzc HF2.out.bl
       clear hK K
       refine wpAnyH_ready (rs := [3, 4]) (by kernel_rfl) (by simp) ?_
       refine c1R (fun K hK => ?_) ?_
       focus
         refine step_app elBk rfl (.tmp 14) (.tmp 16) rfl HF2.out.ownB rfl ⟨bb, bo, none⟩ x.n cb rfl (bk_new (HKBc.out _ HF2.out.bl)) (fun _ _ => bkF_one _ _ _ _) (by unfold maxLen; omega) (by omega) ?_
         intro g1 c1 wa1 ho1 hg1 hd1
         rw [Nat.zero_add] at ho1
         have hf := HF2.out.appB ho1 hg1 hd1
         try simp only [World.size_alloc] at hf
         have HF3 := Lib.hid hf
         clear hf
         clear ho1 hg1 hd1
         try simp only [Nat.zero_add]
         refine oR hK ?_ (fun hHeld => ?_)
         ·exact cpS hac0 hac1 hzc HF3.out.bl
         clear hK K
         refine r1R 4 (fun K hK => ?_)
         go_simp
         have hf := HF3.out.makeI
         try simp only [World.size_alloc] at hf
         have HF4 := Lib.hid hf
         clear hf
         refine oR hK ?_ (fun hHeld => ?_)
         ·exact cpS hac0 hac1 hzc HF4.out.bl
         clear hK K
         refine r1R 7 (fun K hK => ?_)
         refine step_app elInt rfl (.tmp 18) (.tmp 20) rfl HF4.out.ownI rfl ⟨tb, tu, none⟩ x.m ct rfl (ic_new (HKTc.out _ HF4.out.bl)) (fun _ _ => rfl) (by unfold maxLen; omega) (by omega) ?_
         intro g2 c2 wa2 ho2 hg2 hd2
         rw [Nat.zero_add] at ho2
         have hf := HF4.out.appI ho2 hg2 hd2
         try simp only [World.size_alloc] at hf
         have HF5 := Lib.hid hf
         clear hf
         clear ho2 hg2 hd2
         try simp only [Nat.zero_add]
         refine oR hK ?_ (fun hHeld => ?_)
         ·exact cpS hac0 hac1 hzc HF5.out.bl
         clear hK K
         refine tkR 8 ?_
         have hcp := HF5.out.doneS
         try simp only [World.size_alloc] at hcp
         have HCP := Lib.hid hcp
         clear hcp
         have hxc := HF5.out.bx.cell
         have hxf := HF5.out.bx.free
         have hxl := HF5.out.bxl
         try simp only [World.size_alloc] at hxc hxf hxl
         refine r1R 10 (fun K hK => ?_)
         go_simp
         refine oR hK ?_ (fun hHeld => ?_)
         ·try dsimp only
          exact cpS hac0 hac1 hzc HCP.out.bl
         clear hK K
         refine wpAnyH_done (by kernel_rfl) ?_ _
         go_wp2_with fail
         go_meet
         exact HCP.out
       refine c1R (fun K hK => ?_) ?_
       focus
         go_simp
         have hf := HF2.out.makeI
         try simp only [World.size_alloc] at hf
         have HF3 := Lib.hid hf
         clear hf
         refine oR hK ?_ (fun hHeld => ?_)
         ·exact cpS hac0 hac1 hzc HF3.out.bl
         clear hK K
         refine r1R 3 (fun K hK => ?_)
         refine step_app elBk rfl (.tmp 14) (.tmp 16) rfl HF3.out.ownB rfl ⟨bb, bo, none⟩ x.n cb rfl (bk_new (HKBc.out _ HF3.out.bl)) (fun _ _ => bkF_one _ _ _ _) (by unfold maxLen; omega) (by omega) ?_
         intro g1 c1 wa1 ho1 hg1 hd1
         rw [Nat.zero_add] at ho1
         have hf := HF3.out.appB ho1 hg1 hd1
         try simp only [World.size_alloc] at hf
         have HF4 := Lib.hid hf
         clear hf
         clear ho1 hg1 hd1
         try simp only [Nat.zero_add]
         refine oR hK ?_ (fun hHeld => ?_)
         ·exact cpS hac0 hac1 hzc HF4.out.bl
         clear hK K
         refine r1R 7 (fun K hK => ?_)
         refine step_app elInt rfl (.tmp 18) (.tmp 20) rfl HF4.out.ownI rfl ⟨tb, tu, none⟩ x.m ct rfl (ic_new (HKTc.out _ HF4.out.bl)) (fun _ _ => rfl) (by unfold maxLen; omega) (by omega) ?_
         intro g2 c2 wa2 ho2 hg2 hd2
         rw [Nat.zero_add] at ho2
         have hf := HF4.out.appI ho2 hg2 hd2
         try simp only [World.size_alloc] at hf
         have HF5 := Lib.hid hf
         clear hf
         clear ho2 hg2 hd2
         try simp only [Nat.zero_add]
         refine oR hK ?_ (fun hHeld => ?_)
         ·exact cpS hac0 hac1 hzc HF5.out.bl
         clear hK K
         refine tkR 8 ?_
         have hcp := HF5.out.doneS
         try simp only [World.size_alloc] at hcp
         have HCP := Lib.hid hcp
         clear hcp
         have hxc := HF5.out.bx.cell
         have hxf := HF5.out.bx.free
         have hxl := HF5.out.bxl
         try simp only [World.size_alloc] at hxc hxf hxl
         refine r1R 10 (fun K hK => ?_)
         go_simp
         refine oR hK ?_ (fun hHeld => ?_)
         ·try dsimp only
          exact cpS hac0 hac1 hzc HCP.out.bl
         clear hK K
         refine wpAnyH_done (by kernel_rfl) ?_ _
         go_wp2_with fail
         go_meet
         exact HCP.out
       exact AllReadyH.nil
     refine c1R (fun K hK => ?_) ?_
     focus
       go_simp
       have hf := HF1.out.makeI
       try simp only [World.size_alloc] at hf
       have HF2 := Lib.hid hf
       clear hf
       refine oR hK ?_ (fun hHeld => ?_)
       ·exact cpS hac0 hac1 hzc HF2.out.bl
       clear hK K
       refine r1R 0 (fun K hK => ?_)
       go_simp
       have hf := HF2.out.makeB
       try simp only [World.size_alloc] at hf
       have HF3 := Lib.hid hf
       clear hf
       refine oR hK ?_ (fun hHeld => ?_)
       ·exact cpS hac0 hac1 hzc HF3.out.bl
       clear hK K
       refine r1R 3 (fun K hK => ?_)
       refine step_app elBk rfl (.tmp 14) (.tmp 16) rfl HF3.out.ownB rfl ⟨bb, bo, none⟩ x.n cb rfl (bk_new (HKBc.out _ HF3.out.bl)) (fun _ _ => bkF_one _ _ _ _) (by unfold maxLen; omega) (by omega) ?_
       intro g1 c1 wa1 ho1 hg1 hd1
       rw [Nat.zero_add] at ho1
       have hf := HF3.out.appB ho1 hg1 hd1
       try simp only [World.size_alloc] at hf
       have HF4 := Lib.hid hf
       clear hf
       clear ho1 hg1 hd1
       try simp only [Nat.zero_add]
       refine oR hK ?_ (fun hHeld => ?_)
       ·exact cpS hac0 hac1 hzc HF4.out.bl
       clear hK K
       refine r1R 7 (fun K hK => ?_)
       refine step_app elInt rfl (.tmp 18) (.tmp 20) rfl HF4.out.ownI rfl ⟨tb, tu, none⟩ x.m ct rfl (ic_new (HKTc.out _ HF4.out.bl)) (fun _ _ => rfl) (by unfold maxLen; omega) (by omega) ?_
       intro g2 c2 wa2 ho2 hg2 hd2
       rw [Nat.zero_add] at ho2
       have hf := HF4.out.appI ho2 hg2 hd2
       try simp only [World.size_alloc] at hf
       have HF5 := Lib.hid hf
       clear hf
       clear ho2 hg2 hd2
       try simp only [Nat.zero_add]
       refine oR hK ?_ (fun hHeld => ?_)
       ·exact cpS hac0 hac1 hzc HF5.out.bl
       clear hK K
       refine tkR 8 ?_
       have hcp := HF5.out.doneS
       try simp only [World.size_alloc] at hcp
       have HCP := Lib.hid hcp
       clear hcp
       have hxc := HF5.out.bx.cell
       have hxf := HF5.out.bx.free
       have hxl := HF5.out.bxl
       try simp only [World.size_alloc] at hxc hxf hxl
       refine r1R 10 (fun K hK => ?_)
       go_simp
       refine oR hK ?_ (fun hHeld => ?_)
       ·try dsimp only
        exact cpS hac0 hac1 hzc HCP.out.bl
       clear hK K
       refine wpAnyH_done (by kernel_rfl) ?_ _
       go_wp2_with fail
       go_meet
       exact HCP.out
     exact AllReadyH.nil
   exact AllReadyH.nil
  case rest =>
  obtain ⟨b6, g1, c1, g2, c2, rfl, hx6, ho1, ho2, y6, y1, y2, d1, d2, d3, hb⟩ := hcut
  have HS : Hid (SrML w wc (.slice (some ⟨bb, bo, none⟩) x.n cb) (.slice (some ⟨tb, tu, none⟩) x.m ct) b6 (.slice (some ⟨g1, 0, none⟩) x.n c1) (.slice (some ⟨g2, 0, none⟩) x.m c2)) :=
   ⟨HA1.out.below hb HA1.out.lt, HX1.out.below hb HX1.out.lt, hx6, HB1.out.trans (hb.mono HB1.out.size), by omega⟩
  have HZ : Hid (LnZ (w.heap.size + 2) wc (.slice (some ⟨g1, 0, none⟩) x.n c1) (.slice (some ⟨g2, 0, none⟩) x.m c2) x ∧ b6 ≠ g1 ∧ b6 ≠ g2) := ⟨⟨g1, c1, g2, c2, rfl, rfl, ho1, ho2, d3, by omega, by omega⟩, d1, d2⟩
  clear hx6 ho1 ho2 hb hrc hrf hac0 hac1
  go_wp2_with fail
  go_loopw [7, 8, 9] (fun s _ _ wr => ∃ k : Nat, ∃ y : Ln, ∃ h1 d1 h2 d2 : Nat, k ≤ q ∧ s = .int .i64 k ∧ Hid (runO x M L k = some y) ∧ Hid (SrML w wr (.slice (some ⟨bb, bo, none⟩) x.n cb) (.slice (some ⟨tb, tu, none⟩) x.m ct) b6 (.slice (some ⟨h1, 0, none⟩) y.n d1) (.slice (some ⟨h2, 0, none⟩) y.m d2)) ∧ Hid (LnZ (w.heap.size + 2) wr (.slice (some ⟨h1, 0, none⟩) y.n d1) (.slice (some ⟨h2, 0, none⟩) y.m d2) y ∧ b6 ≠ h1 ∧ b6 ≠ h2)) (fun s _ _ _ => q - (intOf s).toNat)
  case atStart => exact ⟨0, x, g1, c1, g2, c2, Nat.zero_le _, rfl, Lib.hid rfl, HS, HZ⟩
  case round =>
   clear HS HZ
   obtain ⟨k, y, h1, d1, h2, d2, hk, rfl, HY, HS, HZ⟩ := hrel
   have HNM := Lib.hid (runO_nm HY.out)
   have hoc := HS.out.out.cell
   by_cases hlt : k < q
   ·have hmc := (HMV.out _ HS.out.bl).at k hlt
    have hkq : (k : Int) < (q : Int) := by omega
    have hl6 := HS.out.out.lt
    have hlr := HS.out.bl.size
    have HLS : Hid (∀ W, Below wr.heap.size wr W → Calls Tryz.prog 83 #[.agg #[.slice (some ⟨h1, 0, none⟩) y.n d1, .slice (some ⟨h2, 0, none⟩) y.m d2], .agg #[.int .i64 (M k), .string (L k)]] W (LrR (stepO y (M k) (L k)) W)) := fun W hW => by
     obtain ⟨e1, e2⟩ := HNM.out
     obtain ⟨g1', c1', g2', c2', q1, q2, o1, o2, _⟩ := HZ.out.1
     cases q1
     cases q2
     exact l4Step_any h1 0 d1 h2 0 d2 y (M k) (L k) W (by omega) (by omega) (BkC.of_own (o1.below hW o1.lt)) (IC.of_own (o2.below hW o2.lt))
    cases ho : stepO y (M k) (L k) with
    | none =>
     have HN : Hid (rnO x M L q = none) := by
      have h1 : runO x M L (k + 1) = none := by simp only [runO, HY.out, Option.bind_some, ho]
      rw [HV.out]; exact runO_none h1 q (by omega)
     have HC : Hid (∀ W, Below wr.heap.size wr W → Calls Tryz.prog 83 #[.agg #[.slice (some ⟨h1, 0, none⟩) y.n d1, .slice (some ⟨h2, 0, none⟩) y.m d2], .agg #[.int .i64 (M k), .string (L k)]] W fun e w' => e = .returned (.tuple #[.agg #[.slice none 0 0, .slice none 0 0], .bool false]) ∧ Below W.heap.size W w') := fun W hW => by
      refine (HLS.out W hW).mono fun e w' h => ?_
      rw [ho] at h
      obtain ⟨hb, ⟨_, h⟩ | ⟨_, _, h, _⟩⟩ := h
      ·exact ⟨h, hb⟩
      ·cases h
     clear ho HLS
     go_wp2_with fail
     go_cut [8, 9] (SeN w (.slice (some ⟨bb, bo, none⟩) x.n cb) (.slice (some ⟨tb, tu, none⟩) x.m ct) b6 (.slice (some ⟨h1, 0, none⟩) y.n d1) (.slice (some ⟨h2, 0, none⟩) y.m d2))
     case first =>
      refine wp_region_held_drew (S := (fun w' => w'.cell? ⟨b6, 0, none⟩ = some (.slice (some ⟨h1, 0, none⟩) y.n d1) ∧ w'.cell? ⟨b6, 1, none⟩ = some (.slice (some ⟨h2, 0, none⟩) y.m d2) ∧ w'.cell? ⟨mb, mo + k * 2, none⟩ = some (.int .i64 (M k)) ∧ w'.cell? ⟨mb, mo + k * 2 + 1, none⟩ = some (.string (L k)))) (by kernel_rfl) ?_ (fun hHeld => ?_)
      ·try dsimp only
       go_keep
      refine tkR 0 ?_
      refine tkR 1 ?_
      refine tkR 2 ?_
      refine tkR 3 ?_
      refine tkR 4 ?_
      refine wpAnyH_ready (rs := [5, 9]) (by kernel_rfl) (by simp) ?_
      refine c1R (fun K hK => ?_) ?_
      ·go_simp
       go_at_call 83; go_must (refine Calls.mono (HC.out _ (Below.refl _ wr).drew) ?_); rintro e w2 ⟨rfl, hb⟩; have hb' : Below wr.heap.size wr w2 := (Below.refl _ wr).drew.trans hb; have HS2 := Lib.hid (HS.out.below hb' (Nat.le_refl _)); have hl2 : wr.heap.size ≤ w2.heap.size := hb'.size; have hoc2 := HS2.out.out.cell; have hmc2 := (HMV.out _ HS2.out.bl).at k hlt; clear hb hb' hoc hmc
       refine oR hK ?_ (fun hHeld => ?_)
       ·try dsimp only
        go_keep
       clear hK K
       refine tkR 6 ?_
       refine tkR 7 ?_
       refine tkR 8 ?_
       refine r1R 9 (fun K hK => ?_)
       go_simp
       skip
       refine oR hK ?_ (fun hHeld => ?_)
       ·try dsimp only
        go_keep
       clear hK K
       have HSz : Hid (∀ a, SrML w (w2.alloc a) (.slice (some ⟨bb, bo, none⟩) x.n cb) (.slice (some ⟨tb, tu, none⟩) x.m ct) b6 (.slice (some ⟨h1, 0, none⟩) y.n d1) (.slice (some ⟨h2, 0, none⟩) y.m d2)) := fun a => HS2.out.below ((Below.refl w2.heap.size w2).alloc (Nat.le_refl _) a) (Nat.le_refl _)
       refine r1R 10 (fun K hK => ?_)
       go_simp
       skip
       refine oR hK ?_ (fun hHeld => ?_)
       ·try dsimp only
        go_keep
       clear hK K
       refine tkR 11 ?_
       refine wpAnyH_done (by kernel_rfl) ?_ _
       go_wp2_with fail
       go_meet
       exact ⟨_, rfl, rfl, HSz.out _⟩
      refine c1R (fun K hK => ?_) ?_
      ·go_simp
       skip
       refine oR hK ?_ (fun hHeld => ?_)
       ·try dsimp only
        go_keep
       clear hK K
       have HSa : Hid (∀ a, SrML w (wr.drew.alloc a) (.slice (some ⟨bb, bo, none⟩) x.n cb) (.slice (some ⟨tb, tu, none⟩) x.m ct) b6 (.slice (some ⟨h1, 0, none⟩) y.n d1) (.slice (some ⟨h2, 0, none⟩) y.m d2)) := fun a => HS.out.below (D := wr.heap.size) ((Below.refl _ wr).drew.alloc (Nat.le_refl _) a) (Nat.le_refl _)
       have HWa : Hid (∀ a, Below wr.heap.size wr (wr.drew.alloc a)) := fun a => (Below.refl _ wr).drew.alloc (Nat.le_refl _) a
       refine r1R 5 (fun K hK => ?_)
       go_simp
       go_at_call 83; go_must (refine Calls.mono (HC.out _ (HWa.out _)) ?_); rintro e w2 ⟨rfl, hb⟩; have HS2 := Lib.hid ((HSa.out _).below hb (Nat.le_refl _)); have HX2 : Hid (Bx w2 wr.heap.size 31 #[.slice none 0 0, .slice none 0 0]) := (Bx.new wr.drew _ _).below hb (by simp); have hl2 : wr.heap.size + 1 ≤ w2.heap.size := (by have := hb.size; simpa using this); have hoc2 := HS2.out.out.cell; have hmc2 := (HMV.out _ HS2.out.bl).at k hlt; clear hb hoc hmc
       refine oR hK ?_ (fun hHeld => ?_)
       ·try dsimp only
        go_keep
       clear hK K
       refine tkR 6 ?_
       refine tkR 7 ?_
       refine tkR 8 ?_
       have HSs : Hid (∀ u0 u1, SrML w ((w2.setCell ⟨wr.heap.size, 0, none⟩ u0).setCell ⟨wr.heap.size, 1, none⟩ u1) (.slice (some ⟨bb, bo, none⟩) x.n cb) (.slice (some ⟨tb, tu, none⟩) x.m ct) b6 (.slice (some ⟨h1, 0, none⟩) y.n d1) (.slice (some ⟨h2, 0, none⟩) y.m d2)) := fun u0 u1 => (HS2.out.setOther (by omega) (by have := HS.out.z6; omega) _).setOther (by omega) (by have := HS.out.z6; omega) _
       have hxc := HX2.out.cell
       have hxf := HX2.out.free
       refine r1R 10 (fun K hK => ?_)
       go_simp
       refine oR hK ?_ (fun hHeld => ?_)
       ·try dsimp only
        exact ⟨(HSs.out _ _).out.cell 0, (HSs.out _ _).out.cell 1, (HMV.out _ (HSs.out _ _).bl).at k hlt⟩
       clear hK K
       refine tkR 11 ?_
       refine wpAnyH_done (by kernel_rfl) ?_ _
       go_wp2_with fail
       go_meet
       exact ⟨_, rfl, rfl, HSs.out _ _⟩
      exact AllReadyH.nil
     case rest =>
     obtain ⟨b8, rfl, rfl, hsr⟩ := hcut
     have HS8 := Lib.hid hsr
     have hrc := hsr.res.cell
     have hrf := hsr.res.free
     clear hsr
     go_wp2_with fail
     exact bodyPost_ret (v := .tuple #[nilLn, .bool false]) (by simp [results, Tryz.results79, go_sem, hrc, nilLn]) rfl ⟨(HS8.out.bl.setCell (p := ⟨w.heap.size + 1, 0, none⟩) (by dsimp only; omega) _).setCell (p := ⟨w.heap.size + 1, 1, none⟩) (by dsimp only; omega) _, .inl ⟨HN.out, rfl⟩⟩
    | some y' =>
     have HN : Hid (runO x M L (k + 1) = some y') := by show _ = _; simp only [runO, HY.out, Option.bind_some, ho]
     have HC : Hid (∀ W, Below wr.heap.size wr W → Calls Tryz.prog 83 #[.agg #[.slice (some ⟨h1, 0, none⟩) y.n d1, .slice (some ⟨h2, 0, none⟩) y.m d2], .agg #[.int .i64 (M k), .string (L k)]] W fun e w' => (∃ g1 c1 g2 c2, e = .returned (.tuple #[.agg #[.slice (some ⟨g1, 0, none⟩) y'.n c1, .slice (some ⟨g2, 0, none⟩) y'.m c2], .bool true]) ∧ Hid (LnZ W.heap.size w' (.slice (some ⟨g1, 0, none⟩) y'.n c1) (.slice (some ⟨g2, 0, none⟩) y'.m c2) y' ∧ W.heap.size ≤ g1 ∧ W.heap.size ≤ g2)) ∧ Below W.heap.size W w') := fun W hW => by
      refine (HLS.out W hW).mono fun e w' h => ?_
      rw [ho] at h
      obtain ⟨hb, ⟨h, _⟩ | ⟨z, v, h, h2, g1, c1, g2, c2, h3, o1, o2, d, z1, z2⟩⟩ := h
      ·cases h
      ·cases h
       exact ⟨⟨g1, c1, g2, c2, by rw [h2, h3], ⟨g1, c1, g2, c2, rfl, rfl, o1, o2, d, z1, z2⟩, z1, z2⟩, hb⟩
     clear ho HLS
     go_wp2_with fail
     go_cut [8, 9] (SeY w (.slice (some ⟨bb, bo, none⟩) x.n cb) (.slice (some ⟨tb, tu, none⟩) x.m ct) b6 (.slice (some ⟨h1, 0, none⟩) y.n d1) (.slice (some ⟨h2, 0, none⟩) y.m d2) wr.heap.size y')
     case first =>
      refine wp_region_held_drew (S := (fun w' => w'.cell? ⟨b6, 0, none⟩ = some (.slice (some ⟨h1, 0, none⟩) y.n d1) ∧ w'.cell? ⟨b6, 1, none⟩ = some (.slice (some ⟨h2, 0, none⟩) y.m d2) ∧ w'.cell? ⟨mb, mo + k * 2, none⟩ = some (.int .i64 (M k)) ∧ w'.cell? ⟨mb, mo + k * 2 + 1, none⟩ = some (.string (L k)))) (by kernel_rfl) ?_ (fun hHeld => ?_)
      ·try dsimp only
       go_keep
      refine tkR 0 ?_
      refine tkR 1 ?_
      refine tkR 2 ?_
      refine tkR 3 ?_
      refine tkR 4 ?_
      refine wpAnyH_ready (rs := [5, 9]) (by kernel_rfl) (by simp) ?_
      refine c1R (fun K hK => ?_) ?_
      ·go_simp
       go_at_call 83; go_must (refine Calls.mono (HC.out _ (Below.refl _ wr).drew) ?_); rintro e w2 ⟨⟨p1, e1, p2, e2, rfl, HL⟩, hb⟩; have HLz := Lib.hid (HL.out.1.lts); have hpp := HL.out.2; have hpd : ∀ W : World, W.drew.heap.size = W.heap.size := (fun _ => rfl); simp only [World.size_alloc, hpd] at hpp; clear hpd; have hb' : Below wr.heap.size wr w2 := (Below.refl _ wr).drew.trans hb; have HS2 := Lib.hid (HS.out.below hb' (Nat.le_refl _)); have hl2 : wr.heap.size ≤ w2.heap.size := hb'.size; have hoc2 := HS2.out.out.cell; have hmc2 := (HMV.out _ HS2.out.bl).at k hlt; clear hb hb' hoc hmc
       refine oR hK ?_ (fun hHeld => ?_)
       ·try dsimp only
        go_keep
       clear hK K
       refine tkR 6 ?_
       refine tkR 7 ?_
       refine tkR 8 ?_
       refine r1R 9 (fun K hK => ?_)
       go_simp
       skip
       refine oR hK ?_ (fun hHeld => ?_)
       ·try dsimp only
        go_keep
       clear hK K
       have HSz : Hid (∀ a, SrML w (w2.alloc a) (.slice (some ⟨bb, bo, none⟩) x.n cb) (.slice (some ⟨tb, tu, none⟩) x.m ct) b6 (.slice (some ⟨h1, 0, none⟩) y.n d1) (.slice (some ⟨h2, 0, none⟩) y.m d2)) := fun a => HS2.out.below ((Below.refl w2.heap.size w2).alloc (Nat.le_refl _) a) (Nat.le_refl _)
       refine r1R 10 (fun K hK => ?_)
       go_simp
       skip
       refine oR hK ?_ (fun hHeld => ?_)
       ·try dsimp only
        go_keep
       clear hK K
       refine tkR 11 ?_
       refine wpAnyH_done (by kernel_rfl) ?_ _
       go_wp2_with fail
       go_meet
       exact ⟨_, p1, e1, p2, e2, rfl, rfl, HSz.out _, Bx.new _ _ _, (HL.out.1.below (below_all _ _) (Nat.le_refl _)).mono (Nat.le_refl _), by omega, by have := HLz.out.1; omega, by have := HLz.out.2; omega, hpp.1, hpp.2⟩
      refine c1R (fun K hK => ?_) ?_
      ·go_simp
       skip
       refine oR hK ?_ (fun hHeld => ?_)
       ·try dsimp only
        go_keep
       clear hK K
       have HSa : Hid (∀ a, SrML w (wr.drew.alloc a) (.slice (some ⟨bb, bo, none⟩) x.n cb) (.slice (some ⟨tb, tu, none⟩) x.m ct) b6 (.slice (some ⟨h1, 0, none⟩) y.n d1) (.slice (some ⟨h2, 0, none⟩) y.m d2)) := fun a => HS.out.below (D := wr.heap.size) ((Below.refl _ wr).drew.alloc (Nat.le_refl _) a) (Nat.le_refl _)
       have HWa : Hid (∀ a, Below wr.heap.size wr (wr.drew.alloc a)) := fun a => (Below.refl _ wr).drew.alloc (Nat.le_refl _) a
       refine r1R 5 (fun K hK => ?_)
       go_simp
       go_at_call 83; go_must (refine Calls.mono (HC.out _ (HWa.out _)) ?_); rintro e w2 ⟨⟨p1, e1, p2, e2, rfl, HL⟩, hb⟩; have HLz := Lib.hid (HL.out.1.lts); have hpp := HL.out.2; have hpd : ∀ W : World, W.drew.heap.size = W.heap.size := (fun _ => rfl); simp only [World.size_alloc, hpd] at hpp; clear hpd; have HS2 := Lib.hid ((HSa.out _).below hb (Nat.le_refl _)); have HX2 : Hid (Bx w2 wr.heap.size 31 #[.slice none 0 0, .slice none 0 0]) := (Bx.new wr.drew _ _).below hb (by simp); have hl2 : wr.heap.size + 1 ≤ w2.heap.size := (by have := hb.size; simpa using this); have hoc2 := HS2.out.out.cell; have hmc2 := (HMV.out _ HS2.out.bl).at k hlt; clear hb hoc hmc
       refine oR hK ?_ (fun hHeld => ?_)
       ·try dsimp only
        go_keep
       clear hK K
       refine tkR 6 ?_
       refine tkR 7 ?_
       refine tkR 8 ?_
       have HSs : Hid (∀ u0 u1, SrML w ((w2.setCell ⟨wr.heap.size, 0, none⟩ u0).setCell ⟨wr.heap.size, 1, none⟩ u1) (.slice (some ⟨bb, bo, none⟩) x.n cb) (.slice (some ⟨tb, tu, none⟩) x.m ct) b6 (.slice (some ⟨h1, 0, none⟩) y.n d1) (.slice (some ⟨h2, 0, none⟩) y.m d2)) := fun u0 u1 => (HS2.out.setOther (by omega) (by have := HS.out.z6; omega) _).setOther (by omega) (by have := HS.out.z6; omega) _
       have hxc := HX2.out.cell
       have hxf := HX2.out.free
       refine r1R 10 (fun K hK => ?_)
       go_simp
       refine oR hK ?_ (fun hHeld => ?_)
       ·try dsimp only
        exact ⟨(HSs.out _ _).out.cell 0, (HSs.out _ _).out.cell 1, (HMV.out _ (HSs.out _ _).bl).at k hlt⟩
       clear hK K
       refine tkR 11 ?_
       refine wpAnyH_done (by kernel_rfl) ?_ _
       go_wp2_with fail
       go_meet
       exact ⟨_, p1, e1, p2, e2, rfl, rfl, HSs.out _ _, bx2 HX2.out _ _, ((HL.out.1.setOther (o := 0) (b := wr.heap.size) (fun g c n h => by cases h; omega) (fun g c n h => by cases h; omega) _).setOther (o := 1) (b := wr.heap.size) (fun g c n h => by cases h; omega) (fun g c n h => by cases h; omega) _).mono (by simp), Nat.le_refl _, by omega, by omega, by omega, by omega⟩
      exact AllReadyH.nil
     case rest =>
     obtain ⟨b8, p1, e1, p2, e2, rfl, rfl, hsr, hx8, hl, hz8, n1, n2, z1, z2⟩ := hcut
     have hxc := hx8.cell
     have hoc8 := hsr.out.cell
     have hof8 := hsr.out.free
     have HS8 : Hid (SrML w ((wc.setCell ⟨b6, 0, none⟩ (.slice (some ⟨p1, 0, none⟩) y'.n e1)).setCell ⟨b6, 1, none⟩ (.slice (some ⟨p2, 0, none⟩) y'.m e2)) (.slice (some ⟨bb, bo, none⟩) x.n cb) (.slice (some ⟨tb, tu, none⟩) x.m ct) b6 (.slice (some ⟨p1, 0, none⟩) y'.n e1) (.slice (some ⟨p2, 0, none⟩) y'.m e2)) := hsr.setOut _ _
     have HZ8 : Hid (LnZ (w.heap.size + 2) ((wc.setCell ⟨b6, 0, none⟩ (.slice (some ⟨p1, 0, none⟩) y'.n e1)).setCell ⟨b6, 1, none⟩ (.slice (some ⟨p2, 0, none⟩) y'.m e2)) (.slice (some ⟨p1, 0, none⟩) y'.n e1) (.slice (some ⟨p2, 0, none⟩) y'.m e2) y' ∧ b6 ≠ p1 ∧ b6 ≠ p2) :=
      ⟨((hl.setOther (fun g c n h => by cases h; omega) (fun g c n h => by cases h; omega) _).setOther (fun g c n h => by cases h; omega) (fun g c n h => by cases h; omega) _).mono (by have := HS.out.z6; omega), by omega, by omega⟩
     clear hsr hx8 hl hmc hoc
     go_wp2_with fail
     go_roundw
     case rel => exact ⟨k + 1, y', p1, e1, p2, e2, by omega, by go_num, HN, HS8, HZ8⟩
     case measure => simp [intOf]; omega
   ·obtain e : k = q := by omega
    subst e
    have hrc := HS.out.res.cell
    have hrf := HS.out.res.free
    have hne : b6 ≠ w.heap.size + 1 := by have := HS.out.z6; omega
    go_wp2_with fail
    exact bodyPost_ret (v := .tuple #[.agg #[.slice (some ⟨h1, 0, none⟩) y.n d1, .slice (some ⟨h2, 0, none⟩) y.m d2], .bool true]) (by simp [results, Tryz.results79, go_sem, hrc]) rfl ⟨(HS.out.bl.setCell (p := ⟨w.heap.size + 1, 0, none⟩) (by dsimp only; omega) _).setCell (p := ⟨w.heap.size + 1, 1, none⟩) (by dsimp only; omega) _, .inr ⟨y, _, by rw [HV.out]; exact HY.out, rfl, HZ.out.1.done _ _⟩⟩
end Go.Proofs.YtlkdmpfifpkpaaaGreatDoor

