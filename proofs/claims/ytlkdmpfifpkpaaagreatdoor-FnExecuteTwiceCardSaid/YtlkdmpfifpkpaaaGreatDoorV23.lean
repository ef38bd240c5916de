/-
  Parts of the proof: Jq Kj Kk Ko. No condition.
-/
import Derived.Test.YtlkdmpfifpkpaaaGreatDoorV22
namespace Go.Proofs.YtlkdmpfifpkpaaaGreatDoor
open Go.RowKit
def mvSt (st : Ses) (k : Int) (l : ByteArray) : Option Ses := match stO st.x k l with | some y => if st.ms.length = 100 then none else some (rcS { st with x := y } k l) | none => none
def mvSS (st : Ses) (l1 l2 : ByteArray) : Ses := (mvSt st (nmF l1) l2).getD st
def mvSO (st : Ses) (l1 l2 : ByteArray) : ByteArray := match mvSt st (nmF l1) l2 with | some _ => okT | none => noT
theorem mvSt_none {st : Ses} {k : Int} {l : ByteArray} (h : stO st.x k l = none) : mvSt st k l = none := by unfold mvSt; simp [h]
theorem mvSt_full {st : Ses} {k : Int} {l : ByteArray} (h : st.ms.length = 100) : mvSt st k l = none := by
 unfold mvSt
 cases stO st.x k l <;> simp [h]
theorem mvSt_some {st : Ses} {k : Int} {l : ByteArray} {y : Ln} (h : stO st.x k l = some y) (h2 : st.ms.length ≠ 100) : mvSt st k l = some (rcS { st with x := y } k l) := by unfold mvSt; simp [h, h2]
theorem Fr.trans2 {S T : Nat → Prop} {a b c : World} (h : Fr S a b) (k : Fr T b c) (hT : ∀ q, T q → S q ∨ a.heap.size ≤ q) : Fr S a c :=
 ⟨k.os.trans h.os, k.tape.trans h.tape, k.output.trans h.output, Nat.le_trans h.size k.size, fun i hi hs => (k.block i (Nat.lt_of_lt_of_le hi h.size) (fun ht => by rcases hT i ht with e | e; exact hs e; omega)).trans (h.block i hi hs)⟩
theorem SsC.setLn {z B s g1 c1 g2 c2 p1 d1 p2 d2 : Nat} {vm vt : Value} {st : Ses} {y : Ln} {w : World} (h : SsC z w s g1 c1 g2 c2 vm vt st) (hl : LnO B w (.agg #[.slice (some ⟨p1, 0, none⟩) y.n d1, .slice (some ⟨p2, 0, none⟩) y.m d2]) y) (hB : ∀ q, ownS s g1 g2 vm vt q → q < B) (hz : z ≤ B) :
    SsC z ((w.setCell ⟨s, 0, none⟩ (.slice (some ⟨p1, 0, none⟩) y.n d1)).setCell ⟨s, 1, none⟩ (.slice (some ⟨p2, 0, none⟩) y.m d2)) s p1 d1 p2 d2 vm vt { st with x := y } ∧ p1 ≥ B ∧ p2 ≥ B := by
  obtain ⟨_, _, _, _, e, o1, o2, h12, hg1, hg2⟩ := hl
  cases e
  have hs := hB s (.inl rfl)
  have hm : ∀ q, vm.ownBlock = some q → q < B := fun q e => hB q (.inr (.inr (.inr (.inl e))))
  have ht : ∀ q, vt.ownBlock = some q → q < B := fun q e => hB q (.inr (.inr (.inr (.inr e))))
  have F := ((Fr.set w ⟨s, 0, none⟩ (.slice (some ⟨p1, 0, none⟩) y.n d1)).trans (Fr.set _ ⟨s, 1, none⟩ (.slice (some ⟨p2, 0, none⟩) y.m d2)))
  have hbx := (h.box.set 0 (.slice (some ⟨p1, 0, none⟩) y.n d1)).set 1 (.slice (some ⟨p2, 0, none⟩) y.m d2)
  have ne : ∀ q, q < B → q ≠ p1 ∧ q ≠ p2 := fun q hq => ⟨by omega, by omega⟩
  refine ⟨⟨?_, o1.fr F (by show ¬ (p1 = s); omega), o2.fr F (by show ¬ (p2 = s); omega), h.mv.fr F (fun q e e' => (h.dm q e).1 e'), h.tv.fr F (fun q e e' => (h.dt q e).1 e'), h12, by omega, by omega, fun q e => ⟨(h.dm q e).1, (ne q (hm q e)).1, (ne q (hm q e)).2, (h.dm q e).2.2.2⟩, fun q e => ⟨(h.dt q e).1, (ne q (ht q e)).1, (ne q (ht q e)).2⟩, by omega, by omega, h.zs⟩, hg1, hg2⟩
  simpa using hbx
theorem lno_early {b B n m c1 c2 p1 p2 : Nat} {y : Ln} {w : World} (hb : b + 1 ≤ B) (h : LnO B w (.agg #[.slice (some ⟨p1, 0, none⟩) n c1, .slice (some ⟨p2, 0, none⟩) m c2]) y) :
    LnO b ((w.setCell ⟨b, 0, none⟩ (.slice (some ⟨p1, 0, none⟩) n c1)).setCell ⟨b, 1, none⟩ (.slice (some ⟨p2, 0, none⟩) m c2)) (.agg #[.slice (some ⟨p1, 0, none⟩) n c1, .slice (some ⟨p2, 0, none⟩) m c2]) y := by
  obtain ⟨q1, e1, q2, e2, e, h1, h2, h3, h4, h5⟩ := h
  cases e
  exact ⟨_, _, _, _, rfl, (h1.setOther (by dsimp only; omega) _).setOther (by dsimp only; omega) _, (h2.setOther (by dsimp only; omega) _).setOther (by dsimp only; omega) _, h3, by omega, by omega⟩
theorem mv_end {s g1 g2 p1 p2 : Nat} {vm vt : Value} {own own' : Nat → Prop} {w w5 w6 : World} (hO : ∀ q, own q ↔ ownS s g1 g2 vm vt q) (f1 : Fr own w w5) (f2 : Fr (ownS s p1 p2 vm vt) w5 w6) (hp1 : w.heap.size ≤ p1) (hp2 : w.heap.size ≤ p2) (h3 : ∀ q, own' q → ownS s p1 p2 vm vt q ∨ w5.heap.size ≤ q) :
    Fr own w w6 ∧ ∀ q, own' q → own q ∨ w.heap.size ≤ q := by
  have hq : ∀ q, ownS s p1 p2 vm vt q → own q ∨ w.heap.size ≤ q := fun q hq => by
   rcases hq with e | e | e | e | e
   ·exact .inl ((hO q).2 (.inl e))
   ·right; omega
   ·right; omega
   ·exact .inl ((hO q).2 (.inr (.inr (.inr (.inl e)))))
   ·exact .inl ((hO q).2 (.inr (.inr (.inr (.inr e)))))
  refine ⟨f1.trans2 f2 hq, fun q h => ?_⟩
  rcases h3 q h with e | e
  ·exact hq q e
  ·have := f1.size
   right; omega
set_option linter.unusedSimpArgs false in
set_option maxRecDepth 100000 in
set_option maxHeartbeats 2000000 in
theorem doMove_any (z s bw n c : Nat) (l1 l2 : ByteArray) (st : Ses) (own : Nat → Prop) (w : World) (hn : 3 ≤ n) (hz : z ≤ w.heap.size) (hS : StS z st own w s) (hxn : st.x.n ≤ 1000 ∧ st.x.m ≤ 1000) (hms : st.ms.length ≤ 1000) (hts : st.ts.length ≤ 1000) (hw1 : w.cell? ⟨bw, 1, none⟩ = some (.string l1)) (hw2 : w.cell? ⟨bw, 2, none⟩ = some (.string l2)) :
    Calls Tryz.prog 98 #[.pointer (some ⟨s, 0, none⟩), .slice (some ⟨bw, 0, none⟩) n c] w (Md z (mvSS st l1 l2) (mvSO st l1 l2) s own w) := by
  have hbl : bw < w.heap.size := World.block_lt_of_cell? w ⟨bw, 1, none⟩ hw1
  have HW1 := Lib.hid hw1
  have HW2 := Lib.hid hw2
  have HS := Lib.hid hS
  clear hw1 hw2 hS
  have HCC : Hid (∀ W, Below w.heap.size w W → W.cell? ⟨bw, 1, none⟩ = some (.string l1) ∧ W.cell? ⟨bw, 2, none⟩ = some (.string l2)) := fun W h => ⟨by rw [h.cell (p := ⟨bw, 1, none⟩) hbl]; exact HW1.out, by rw [h.cell (p := ⟨bw, 2, none⟩) hbl]; exact HW2.out⟩
  have hn1 : (1 : Int) < (n : Int) := by omega
  have hn2 : 1 < n := by omega
  have hn3 : (2 : Int) < (n : Int) := by omega
  have hn4 : 2 < n := by omega
  have HBd : Hid (Below w.heap.size w w.drew) := (Below.refl _ _).drew
  go_enter Tryz.func98, Tryz.ntmps98
  go_wp2_with fail
  refine wp_region_held_drew (S := fun W => W.cell? ⟨bw, 1, none⟩ = some (.string l1) ∧ W.cell? ⟨bw, 2, none⟩ = some (.string l2)) (by kernel_rfl) (HCC.out _ HBd.out) (fun hHeld => ?_)
  have HBA : Hid (Below w.heap.size w (w.drew.alloc (.cells #[.int .i64 0, .string ⟨#[]⟩] 94))) := HBd.out.alloc HBd.out.size _
  have HB1 : Hid (Below w.heap.size w (w.alloc (.cells #[.int .i64 (nmF l1), .string l2] 94)).drew) := (below_all w _).drew
  refine tkR 0 ?_
  refine tkR 1 ?_
  refine tkR 2 ?_
  refine tkR 4 ?_
  refine tkR 5 ?_
  refine tkR 6 ?_
  refine wpAnyH_ready (rs := [3, 8]) (by kernel_rfl) (by simp) ?_
  refine c1R (fun K hK => ?_) ?_
  ·go_simp
   go_at_call 120
   go_must (refine Calls.mono (numberOf_any l1 _) ?_)
   rintro e w' ⟨rfl, rfl⟩
   refine oR hK ?_ (fun hHeld => ?_)
   ·try dsimp only
    exact HCC.out _ HBd.out
   clear hK K
   refine tkR 7 ?_
   refine r1R 8 (fun K hK => ?_)
   go_simp
   skip
   refine oR hK ?_ (fun hHeld => ?_)
   ·try dsimp only
    exact HCC.out _ HBA.out
   clear hK K
   refine r1R 9 (fun K hK => ?_)
   go_simp
   skip
   refine oR hK ?_ (fun hHeld => ?_)
   ·try dsimp only
    exact HCC.out _ HB1.out
   clear hK K
   refine wpAnyH_done (by kernel_rfl) ?_ _
   have HX1 : Hid (Bx (w.alloc (.cells #[.int .i64 (nmF l1), .string l2] 94)).drew w.heap.size 94 #[.int .i64 (nmF l1), .string l2]) := Bx.newAt rfl
   clear hHeld HBA HCC HBd hn1 hn2 hn3 hn4 hbl
   generalize hW1 : (w.alloc (.cells #[.int .i64 (nmF l1), .string l2] 94)).drew = w1 at *
   clear hW1
   obtain ⟨g1, c1, g2, c2, vm, vt, h1, h2⟩ := HS.out.keep (Fr.of_below HB1.out _)
   obtain ⟨am, cm, hvm⟩ := h1.mv.shape
   subst hvm
   have HS1 := Lib.hid h1
   have HO := Lib.hid h2
   have HSO : Hid (∀ q, ownS s g1 g2 (.slice am st.ms.length cm) vt q → z ≤ q ∧ q < w.heap.size) := fun q hq => HS.out.oz.2 q ((h2 q).2 hq)
   clear h1 h2
   have HC1 : Hid (∀ W, Below w1.heap.size w1 W → (W.cell? ⟨s, 0, none⟩ = some (.slice (some ⟨g1, 0, none⟩) st.x.n c1) ∧ W.cell? ⟨s, 1, none⟩ = some (.slice (some ⟨g2, 0, none⟩) st.x.m c2)) ∧ W.cell? ⟨w.heap.size, 0, none⟩ = some (.int .i64 (nmF l1)) ∧ W.cell? ⟨w.heap.size, 1, none⟩ = some (.string l2)) := fun W h => ⟨⟨(HS1.out.box.below h HS1.out.box.lt).cell 0, (HS1.out.box.below h HS1.out.box.lt).cell 1⟩, (HX1.out.below h HX1.out.lt).cell 0, (HX1.out.below h HX1.out.lt).cell 1⟩
   have HBd1 : Hid (Below w1.heap.size w1 w1.drew) := (Below.refl _ _).drew
   have HBA1 : Hid (Below w1.heap.size w1 (w1.drew.alloc (.cells #[.slice none 0 0, .slice none 0 0] 31))) := HBd1.out.alloc HBd1.out.size _
   go_wp2_with fail
   refine wp_region_held_drew (S := fun W => (W.cell? ⟨s, 0, none⟩ = some (.slice (some ⟨g1, 0, none⟩) st.x.n c1) ∧ W.cell? ⟨s, 1, none⟩ = some (.slice (some ⟨g2, 0, none⟩) st.x.m c2)) ∧ W.cell? ⟨w.heap.size, 0, none⟩ = some (.int .i64 (nmF l1)) ∧ W.cell? ⟨w.heap.size, 1, none⟩ = some (.string l2)) (by kernel_rfl) (HC1.out _ HBd1.out) (fun hHeld => ?_)
   refine tkR 0 ?_
   refine tkR 1 ?_
   refine tkR 2 ?_
   refine tkR 3 ?_
   refine tkR 4 ?_
   cases hso : stO st.x (nmF l1) l2 with
   | none =>
    have HLS : Hid (∀ W, Below w1.heap.size w1 W → Calls Tryz.prog 121 #[.agg #[.slice (some ⟨g1, 0, none⟩) st.x.n c1, .slice (some ⟨g2, 0, none⟩) st.x.m c2], .agg #[.int .i64 (nmF l1), .string l2]] W fun e W' => e = .returned (.tuple #[nilLn, .bool false]) ∧ Below W.heap.size W W') := fun W h => (lineStep_any g1 0 c1 g2 0 c2 st.x (nmF l1) l2 W (by omega) (by omega) (BkC.of_own (HS1.out.bs.below h HS1.out.bs.lt)) (IC.of_own (HS1.out.tr.below h HS1.out.tr.lt))).mono fun e W' ⟨h1, h2⟩ => by
     rcases h2 with ⟨_, h2⟩ | ⟨_, _, h2, _⟩
     ·exact ⟨h2, h1⟩
     ·rw [hso] at h2; cases h2
    have HMS : Hid (mvSt st (nmF l1) l2 = none) := mvSt_none hso
    clear hso
    refine wpAnyH_ready (rs := [5, 9]) (by kernel_rfl) (by simp) ?_
    refine c1R (fun K hK => ?_) ?_
    ·go_simp
     go_at_call 121
     go_must (refine Calls.mono (HLS.out _ HBd1.out) ?_)
     rintro e w2 ⟨rfl, hb2⟩
     have HB2 : Hid (Below w1.heap.size w1 w2) := HBd1.out.trans (hb2.mono HBd1.out.size)
     unfold nilLn
     refine oR hK ?_ (fun hHeld => ?_)
     ·try dsimp only
      exact HC1.out _ HB2.out
     clear hK K
     refine tkR 6 ?_
     refine tkR 7 ?_
     refine tkR 8 ?_
     refine r1R 9 (fun K hK => ?_)
     go_simp
     skip
     refine oR hK ?_ (fun hHeld => ?_)
     ·try dsimp only
      exact HC1.out _ (HB2.out.alloc HB2.out.size _)
     clear hK K
     refine r1R 10 (fun K hK => ?_)
     go_simp
     skip
     refine oR hK ?_ (fun hHeld => ?_)
     ·try dsimp only
      exact HC1.out _ (HB2.out.alloc HB2.out.size _)
     clear hK K
     refine tkR 11 ?_
     refine wpAnyH_done (by kernel_rfl) ?_ _
     have HB3 := Lib.hid (HB2.out.alloc HB2.out.size (.cells #[.slice none 0 0, .slice none 0 0] 31))
     go_wp2_with fail
     go_ret
     have HB4 := Lib.hid (HB1.out.trans (HB3.out.mono HB1.out.size))
     exact ⟨by unfold mvSO; rw [HMS.out]; rfl, own, by unfold mvSS; rw [HMS.out]; exact HS.out.keep (Fr.of_below HB4.out _), Fr.of_below HB4.out own, fun _ hq => .inl hq⟩
    ·refine c1R (fun K hK => ?_) ?_
     ·have HXA : Hid (Bx (w1.drew.alloc (.cells #[.slice none 0 0, .slice none 0 0] 31)) w1.heap.size 31 #[.slice none 0 0, .slice none 0 0]) := Bx.newAt rfl
      go_simp
      skip
      refine oR hK ?_ (fun hHeld => ?_)
      ·try dsimp only
       exact HC1.out _ HBA1.out
      clear hK K
      refine r1R 5 (fun K hK => ?_)
      go_simp
      go_at_call 121
      go_must (refine Calls.mono (HLS.out _ HBA1.out) ?_)
      rintro e w2 ⟨rfl, hb2⟩
      have HB2 : Hid (Below w1.heap.size w1 w2) := HBA1.out.trans (hb2.mono HBA1.out.size)
      have HX2 := Lib.hid (HXA.out.below hb2 HXA.out.lt)
      have hxc := HX2.out.cell
      have hxf := HX2.out.free
      have hxl := HX2.out.lt
      unfold nilLn
      refine oR hK ?_ (fun hHeld => ?_)
      ·try dsimp only
       exact HC1.out _ HB2.out
      clear hK K
      refine tkR 6 ?_
      refine tkR 7 ?_
      refine tkR 8 ?_
      refine r1R 10 (fun K hK => ?_)
      go_simp
      have HB3 := Lib.hid ((HB2.out.setCell (p := ⟨w1.heap.size, 0, none⟩) (Nat.le_refl _) (.slice none 0 0)).setCell (p := ⟨w1.heap.size, 1, none⟩) (Nat.le_refl _) (.slice none 0 0))
      refine oR hK ?_ (fun hHeld => ?_)
      ·try dsimp only
       exact HC1.out _ HB3.out
      clear hK K
      refine tkR 11 ?_
      refine wpAnyH_done (by kernel_rfl) ?_ _
      clear hxc hxf hxl
      go_wp2_with fail
      go_ret
      have HB4 := Lib.hid (HB1.out.trans (HB3.out.mono HB1.out.size))
      exact ⟨by unfold mvSO; rw [HMS.out]; rfl, own, by unfold mvSS; rw [HMS.out]; exact HS.out.keep (Fr.of_below HB4.out _), Fr.of_below HB4.out own, fun _ hq => .inl hq⟩
     ·exact AllReadyH.nil
   | some y =>
    have HLS : Hid (∀ W, Below w1.heap.size w1 W → Calls Tryz.prog 121 #[.agg #[.slice (some ⟨g1, 0, none⟩) st.x.n c1, .slice (some ⟨g2, 0, none⟩) st.x.m c2], .agg #[.int .i64 (nmF l1), .string l2]] W fun e W' => ∃ v, e = .returned (.tuple #[v, .bool true]) ∧ LnO W.heap.size W' v y ∧ Below W.heap.size W W') := fun W h => (lineStep_any g1 0 c1 g2 0 c2 st.x (nmF l1) l2 W (by omega) (by omega) (BkC.of_own (HS1.out.bs.below h HS1.out.bs.lt)) (IC.of_own (HS1.out.tr.below h HS1.out.tr.lt))).mono fun e W' ⟨h1, h2⟩ => by
     rcases h2 with ⟨h2, _⟩ | ⟨y', v, h2, h3, h4⟩
     ·rw [hso] at h2; cases h2
     ·rw [hso] at h2
      cases h2
      exact ⟨v, h3, h4, h1⟩
    have HSO2 := Lib.hid hso
    clear hso
    refine wpAnyH_ready (rs := [5, 9]) (by kernel_rfl) (by simp) ?_
    refine c1R (fun K hK => ?_) ?_
    ·go_simp
     go_at_call 121
     go_must (refine Calls.mono (HLS.out _ HBd1.out) ?_)
     rintro e w2 ⟨v, rfl, hl2, hb2⟩
     have HL2 := Lib.hid (hl2.mono (D := w1.heap.size) HBd1.out.size)
     obtain ⟨p1, d1, p2, d2, rfl, _⟩ := hl2
     have HB2 : Hid (Below w1.heap.size w1 w2) := HBd1.out.trans (hb2.mono HBd1.out.size)
     refine oR hK ?_ (fun hHeld => ?_)
     ·try dsimp only
      exact HC1.out _ HB2.out
     clear hK K
     refine tkR 6 ?_
     refine tkR 7 ?_
     refine tkR 8 ?_
     refine r1R 9 (fun K hK => ?_)
     go_simp
     skip
     refine oR hK ?_ (fun hHeld => ?_)
     ·try dsimp only
      exact HC1.out _ (HB2.out.alloc HB2.out.size _)
     clear hK K
     refine r1R 10 (fun K hK => ?_)
     go_simp
     skip
     refine oR hK ?_ (fun hHeld => ?_)
     ·try dsimp only
      exact HC1.out _ (HB2.out.alloc HB2.out.size _)
     clear hK K
     refine tkR 11 ?_
     refine wpAnyH_done (by kernel_rfl) ?_ _
     have HB3 := Lib.hid (HB2.out.alloc HB2.out.size (.cells #[.slice (some ⟨p1, 0, none⟩) y.n d1, .slice (some ⟨p2, 0, none⟩) y.m d2] 31))
     have HX3 : Hid (Bx (w2.alloc (.cells #[.slice (some ⟨p1, 0, none⟩) y.n d1, .slice (some ⟨p2, 0, none⟩) y.m d2] 31)) w2.heap.size 31 #[.slice (some ⟨p1, 0, none⟩) y.n d1, .slice (some ⟨p2, 0, none⟩) y.m d2]) := Bx.new _ _ _
     have HL3 := Lib.hid (HL2.out.below (below_all w2 (.cells #[.slice (some ⟨p1, 0, none⟩) y.n d1, .slice (some ⟨p2, 0, none⟩) y.m d2] 31)) (Nat.le_refl _))
     have hxc := HX3.out.cell
     have hbn : s ≠ w2.heap.size := fun e => by have := (HSO.out s (.inl rfl)).2; have := HB2.out.size; have := HB1.out.size; omega
     generalize w2.alloc (.cells #[.slice (some ⟨p1, 0, none⟩) y.n d1, .slice (some ⟨p2, 0, none⟩) y.m d2] 31) = w3 at *
     clear hHeld
     have HS3 := Lib.hid (HS1.out.fr (Fr.of_below HB3.out (fun _ => False)) (fun _ _ h => h))
     have HB4 := Lib.hid (HB1.out.trans (HB3.out.mono HB1.out.size))
     have hsb := HS3.out.box.lt
     have hsf := HS3.out.box.free
     have hsc := HS3.out.box.cell
     have HX4 := Lib.hid (HX1.out.below HB3.out HX1.out.lt)
     have hmc := HX4.out.cell
     have hbm : s ≠ w.heap.size := fun e => by have := (HSO.out s (.inl rfl)).2; omega
     by_cases hf : st.ms.length = 100
     ·have HMS : Hid (mvSt st (nmF l1) l2 = none) := mvSt_full hf
      have hq1 : decide ((st.ms.length : Int) = 100) = true := by simp [hf]
      have hq2 : ((st.ms.length : Int) == 100) = true := by simp [hf]
      clear hf
      go_wp2_with fail
      go_ret
      exact ⟨by unfold mvSO; rw [HMS.out]; rfl, own, by unfold mvSS; rw [HMS.out]; exact HS.out.keep (Fr.of_below HB4.out _), Fr.of_below HB4.out own, fun _ hq => .inl hq⟩
     ·have HMS : Hid (mvSt st (nmF l1) l2 = some (rcS { st with x := y } (nmF l1) l2)) := mvSt_some HSO2.out hf
      have hq1 : decide ((st.ms.length : Int) = 100) = false := by simp; omega
      have hq2 : ((st.ms.length : Int) == 100) = false := by simp; omega
      clear hf
      go_wp2_with fail
      have hnew := HS3.out.setLn HL3.out (fun q hq => by have := (HSO.out q hq).2; have := HB1.out.size; omega) (Nat.le_trans hz HB1.out.size)
      have HFN : Hid (Fr own w ((w3.setCell ⟨s, 0, none⟩ (.slice (some ⟨p1, 0, none⟩) y.n d1)).setCell ⟨s, 1, none⟩ (.slice (some ⟨p2, 0, none⟩) y.m d2))) := (Fr.of_below HB4.out own).trans (((Fr.set w3 ⟨s, 0, none⟩ (.slice (some ⟨p1, 0, none⟩) y.n d1)).trans (Fr.set _ ⟨s, 1, none⟩ (.slice (some ⟨p2, 0, none⟩) y.m d2))).mono (fun q _ e => (HO.out q).2 (.inl e)))
      refine (record_any z s (nmF l1) l2 { st with x := y } (ownS s p1 p2 (.slice am st.ms.length cm) vt) _ (Nat.le_trans hz HFN.out.size) ⟨p1, d1, p2, d2, _, _, hnew.1, fun _ => Iff.rfl⟩ hms hts).mono ?_
      rintro e w6 ⟨rfl, own', h1, h2, h3⟩
      have HE := Lib.hid (mv_end HO.out HFN.out h2 (Nat.le_trans HB1.out.size hnew.2.1) (Nat.le_trans HB1.out.size hnew.2.2) h3)
      have H1 := Lib.hid h1
      clear h1 h2 h3 hnew HFN hsc hsf hsb hmc hxc
      go_wp2_with fail
      go_ret
      exact ⟨by unfold mvSO; rw [HMS.out]; rfl, own', by unfold mvSS; rw [HMS.out]; exact H1.out, HE.out.1, HE.out.2⟩
    ·refine c1R (fun K hK => ?_) ?_
     ·have HXA : Hid (Bx (w1.drew.alloc (.cells #[.slice none 0 0, .slice none 0 0] 31)) w1.heap.size 31 #[.slice none 0 0, .slice none 0 0]) := Bx.newAt rfl
      go_simp
      skip
      refine oR hK ?_ (fun hHeld => ?_)
      ·try dsimp only
       exact HC1.out _ HBA1.out
      clear hK K
      refine r1R 5 (fun K hK => ?_)
      go_simp
      go_at_call 121
      go_must (refine Calls.mono (HLS.out _ HBA1.out) ?_)
      rintro e w2 ⟨v, rfl, hl2, hb2⟩
      have HL0 := Lib.hid hl2
      obtain ⟨p1, d1, p2, d2, rfl, _⟩ := hl2
      have HB2 : Hid (Below w1.heap.size w1 w2) := HBA1.out.trans (hb2.mono HBA1.out.size)
      have HX2 := Lib.hid (HXA.out.below hb2 HXA.out.lt)
      have hxc := HX2.out.cell
      have hxf := HX2.out.free
      have hxl := HX2.out.lt
      refine oR hK ?_ (fun hHeld => ?_)
      ·try dsimp only
       exact HC1.out _ HB2.out
      clear hK K
      refine tkR 6 ?_
      refine tkR 7 ?_
      refine tkR 8 ?_
      refine r1R 10 (fun K hK => ?_)
      go_simp
      have HB3 := Lib.hid ((HB2.out.setCell (p := ⟨w1.heap.size, 0, none⟩) (Nat.le_refl _) (.slice (some ⟨p1, 0, none⟩) y.n d1)).setCell (p := ⟨w1.heap.size, 1, none⟩) (Nat.le_refl _) (.slice (some ⟨p2, 0, none⟩) y.m d2))
      refine oR hK ?_ (fun hHeld => ?_)
      ·try dsimp only
       exact HC1.out _ HB3.out
      clear hK K
      refine tkR 11 ?_
      refine wpAnyH_done (by kernel_rfl) ?_ _
      clear hxc hxf hxl
      have HX3 : Hid (Bx ((w2.setCell ⟨w1.heap.size, 0, none⟩ (.slice (some ⟨p1, 0, none⟩) y.n d1)).setCell ⟨w1.heap.size, 1, none⟩ (.slice (some ⟨p2, 0, none⟩) y.m d2)) w1.heap.size 31 #[.slice (some ⟨p1, 0, none⟩) y.n d1, .slice (some ⟨p2, 0, none⟩) y.m d2]) := by
       have hb := (HX2.out.set 0 (.slice (some ⟨p1, 0, none⟩) y.n d1)).set 1 (.slice (some ⟨p2, 0, none⟩) y.m d2)
       show Bx _ _ _ _
       simpa using hb
      have HL3 := Lib.hid (lno_early (b := w1.heap.size) (by simp) HL0.out)
      have hxc := HX3.out.cell
      have hbn : s ≠ w1.heap.size := fun e => by have := (HSO.out s (.inl rfl)).2; have := HB1.out.size; omega
      clear HX2 HXA HL0
      generalize (w2.setCell ⟨w1.heap.size, 0, none⟩ (.slice (some ⟨p1, 0, none⟩) y.n d1)).setCell ⟨w1.heap.size, 1, none⟩ (.slice (some ⟨p2, 0, none⟩) y.m d2) = w3 at *
      clear hHeld
      have HS3 := Lib.hid (HS1.out.fr (Fr.of_below HB3.out (fun _ => False)) (fun _ _ h => h))
      have HB4 := Lib.hid (HB1.out.trans (HB3.out.mono HB1.out.size))
      have hsb := HS3.out.box.lt
      have hsf := HS3.out.box.free
      have hsc := HS3.out.box.cell
      have HX4 := Lib.hid (HX1.out.below HB3.out HX1.out.lt)
      have hmc := HX4.out.cell
      have hbm : s ≠ w.heap.size := fun e => by have := (HSO.out s (.inl rfl)).2; omega
      by_cases hf : st.ms.length = 100
      ·have HMS : Hid (mvSt st (nmF l1) l2 = none) := mvSt_full hf
       have hq1 : decide ((st.ms.length : Int) = 100) = true := by simp [hf]
       have hq2 : ((st.ms.length : Int) == 100) = true := by simp [hf]
       clear hf
       go_wp2_with fail
       go_ret
       exact ⟨by unfold mvSO; rw [HMS.out]; rfl, own, by unfold mvSS; rw [HMS.out]; exact HS.out.keep (Fr.of_below HB4.out _), Fr.of_below HB4.out own, fun _ hq => .inl hq⟩
      ·have HMS : Hid (mvSt st (nmF l1) l2 = some (rcS { st with x := y } (nmF l1) l2)) := mvSt_some HSO2.out hf
       have hq1 : decide ((st.ms.length : Int) = 100) = false := by simp; omega
       have hq2 : ((st.ms.length : Int) == 100) = false := by simp; omega
       clear hf
       go_wp2_with fail
       have hnew := HS3.out.setLn HL3.out (fun q hq => by have := (HSO.out q hq).2; have := HB1.out.size; omega) (Nat.le_trans hz HB1.out.size)
       have HFN : Hid (Fr own w ((w3.setCell ⟨s, 0, none⟩ (.slice (some ⟨p1, 0, none⟩) y.n d1)).setCell ⟨s, 1, none⟩ (.slice (some ⟨p2, 0, none⟩) y.m d2))) := (Fr.of_below HB4.out own).trans (((Fr.set w3 ⟨s, 0, none⟩ (.slice (some ⟨p1, 0, none⟩) y.n d1)).trans (Fr.set _ ⟨s, 1, none⟩ (.slice (some ⟨p2, 0, none⟩) y.m d2))).mono (fun q _ e => (HO.out q).2 (.inl e)))
       refine (record_any z s (nmF l1) l2 { st with x := y } (ownS s p1 p2 (.slice am st.ms.length cm) vt) _ (Nat.le_trans hz HFN.out.size) ⟨p1, d1, p2, d2, _, _, hnew.1, fun _ => Iff.rfl⟩ hms hts).mono ?_
       rintro e w6 ⟨rfl, own', h1, h2, h3⟩
       have HE := Lib.hid (mv_end HO.out HFN.out h2 (Nat.le_trans HB1.out.size hnew.2.1) (Nat.le_trans HB1.out.size hnew.2.2) h3)
       have H1 := Lib.hid h1
       clear h1 h2 h3 hnew HFN hsc hsf hsb hmc hxc
       go_wp2_with fail
       go_ret
       exact ⟨by unfold mvSO; rw [HMS.out]; rfl, own', by unfold mvSS; rw [HMS.out]; exact H1.out, HE.out.1, HE.out.2⟩
     ·exact AllReadyH.nil
  ·refine c1R (fun K hK => ?_) ?_
   ·go_simp
    skip
    refine oR hK ?_ (fun hHeld => ?_)
    ·try dsimp only
     exact HCC.out _ HBA.out
    clear hK K
    refine r1R 3 (fun K hK => ?_)
    go_simp
    go_at_call 120
    go_must (refine Calls.mono (numberOf_any l1 _) ?_)
    rintro e w' ⟨rfl, rfl⟩
    refine oR hK ?_ (fun hHeld => ?_)
    ·try dsimp only
     exact HCC.out _ HBA.out
    clear hK K
    refine tkR 7 ?_
    refine r1R 9 (fun K hK => ?_)
    go_simp
    skip
    refine oR hK ?_ (fun hHeld => ?_)
    ·try dsimp only
     exact HCC.out _ HB1.out
    clear hK K
    refine wpAnyH_done (by kernel_rfl) ?_ _
    have HX1 : Hid (Bx (w.alloc (.cells #[.int .i64 (nmF l1), .string l2] 94)).drew w.heap.size 94 #[.int .i64 (nmF l1), .string l2]) := Bx.newAt rfl
    clear hHeld HBA HCC HBd hn1 hn2 hn3 hn4 hbl
    generalize hW1 : (w.alloc (.cells #[.int .i64 (nmF l1), .string l2] 94)).drew = w1 at *
    clear hW1
    obtain ⟨g1, c1, g2, c2, vm, vt, h1, h2⟩ := HS.out.keep (Fr.of_below HB1.out _)
    obtain ⟨am, cm, hvm⟩ := h1.mv.shape
    subst hvm
    have HS1 := Lib.hid h1
    have HO := Lib.hid h2
    have HSO : Hid (∀ q, ownS s g1 g2 (.slice am st.ms.length cm) vt q → z ≤ q ∧ q < w.heap.size) := fun q hq => HS.out.oz.2 q ((h2 q).2 hq)
    clear h1 h2
    have HC1 : Hid (∀ W, Below w1.heap.size w1 W → (W.cell? ⟨s, 0, none⟩ = some (.slice (some ⟨g1, 0, none⟩) st.x.n c1) ∧ W.cell? ⟨s, 1, none⟩ = some (.slice (some ⟨g2, 0, none⟩) st.x.m c2)) ∧ W.cell? ⟨w.heap.size, 0, none⟩ = some (.int .i64 (nmF l1)) ∧ W.cell? ⟨w.heap.size, 1, none⟩ = some (.string l2)) := fun W h => ⟨⟨(HS1.out.box.below h HS1.out.box.lt).cell 0, (HS1.out.box.below h HS1.out.box.lt).cell 1⟩, (HX1.out.below h HX1.out.lt).cell 0, (HX1.out.below h HX1.out.lt).cell 1⟩
    have HBd1 : Hid (Below w1.heap.size w1 w1.drew) := (Below.refl _ _).drew
    have HBA1 : Hid (Below w1.heap.size w1 (w1.drew.alloc (.cells #[.slice none 0 0, .slice none 0 0] 31))) := HBd1.out.alloc HBd1.out.size _
    go_wp2_with fail
    refine wp_region_held_drew (S := fun W => (W.cell? ⟨s, 0, none⟩ = some (.slice (some ⟨g1, 0, none⟩) st.x.n c1) ∧ W.cell? ⟨s, 1, none⟩ = some (.slice (some ⟨g2, 0, none⟩) st.x.m c2)) ∧ W.cell? ⟨w.heap.size, 0, none⟩ = some (.int .i64 (nmF l1)) ∧ W.cell? ⟨w.heap.size, 1, none⟩ = some (.string l2)) (by kernel_rfl) (HC1.out _ HBd1.out) (fun hHeld => ?_)
    refine tkR 0 ?_
    refine tkR 1 ?_
    refine tkR 2 ?_
    refine tkR 3 ?_
    refine tkR 4 ?_
    cases hso : stO st.x (nmF l1) l2 with
    | none =>
     have HLS : Hid (∀ W, Below w1.heap.size w1 W → Calls Tryz.prog 121 #[.agg #[.slice (some ⟨g1, 0, none⟩) st.x.n c1, .slice (some ⟨g2, 0, none⟩) st.x.m c2], .agg #[.int .i64 (nmF l1), .string l2]] W fun e W' => e = .returned (.tuple #[nilLn, .bool false]) ∧ Below W.heap.size W W') := fun W h => (lineStep_any g1 0 c1 g2 0 c2 st.x (nmF l1) l2 W (by omega) (by omega) (BkC.of_own (HS1.out.bs.below h HS1.out.bs.lt)) (IC.of_own (HS1.out.tr.below h HS1.out.tr.lt))).mono fun e W' ⟨h1, h2⟩ => by
      rcases h2 with ⟨_, h2⟩ | ⟨_, _, h2, _⟩
      ·exact ⟨h2, h1⟩
      ·rw [hso] at h2; cases h2
     have HMS : Hid (mvSt st (nmF l1) l2 = none) := mvSt_none hso
     clear hso
     refine wpAnyH_ready (rs := [5, 9]) (by kernel_rfl) (by simp) ?_
     refine c1R (fun K hK => ?_) ?_
     ·go_simp
      go_at_call 121
      go_must (refine Calls.mono (HLS.out _ HBd1.out) ?_)
      rintro e w2 ⟨rfl, hb2⟩
      have HB2 : Hid (Below w1.heap.size w1 w2) := HBd1.out.trans (hb2.mono HBd1.out.size)
      unfold nilLn
      refine oR hK ?_ (fun hHeld => ?_)
      ·try dsimp only
       exact HC1.out _ HB2.out
      clear hK K
      refine tkR 6 ?_
      refine tkR 7 ?_
      refine tkR 8 ?_
      refine r1R 9 (fun K hK => ?_)
      go_simp
      skip
      refine oR hK ?_ (fun hHeld => ?_)
      ·try dsimp only
       exact HC1.out _ (HB2.out.alloc HB2.out.size _)
      clear hK K
      refine r1R 10 (fun K hK => ?_)
      go_simp
      skip
      refine oR hK ?_ (fun hHeld => ?_)
      ·try dsimp only
       exact HC1.out _ (HB2.out.alloc HB2.out.size _)
      clear hK K
      refine tkR 11 ?_
      refine wpAnyH_done (by kernel_rfl) ?_ _
      have HB3 := Lib.hid (HB2.out.alloc HB2.out.size (.cells #[.slice none 0 0, .slice none 0 0] 31))
      go_wp2_with fail
      go_ret
      have HB4 := Lib.hid (HB1.out.trans (HB3.out.mono HB1.out.size))
      exact ⟨by unfold mvSO; rw [HMS.out]; rfl, own, by unfold mvSS; rw [HMS.out]; exact HS.out.keep (Fr.of_below HB4.out _), Fr.of_below HB4.out own, fun _ hq => .inl hq⟩
     ·refine c1R (fun K hK => ?_) ?_
      ·have HXA : Hid (Bx (w1.drew.alloc (.cells #[.slice none 0 0, .slice none 0 0] 31)) w1.heap.size 31 #[.slice none 0 0, .slice none 0 0]) := Bx.newAt rfl
       go_simp
       skip
       refine oR hK ?_ (fun hHeld => ?_)
       ·try dsimp only
        exact HC1.out _ HBA1.out
       clear hK K
       refine r1R 5 (fun K hK => ?_)
       go_simp
       go_at_call 121
       go_must (refine Calls.mono (HLS.out _ HBA1.out) ?_)
       rintro e w2 ⟨rfl, hb2⟩
       have HB2 : Hid (Below w1.heap.size w1 w2) := HBA1.out.trans (hb2.mono HBA1.out.size)
       have HX2 := Lib.hid (HXA.out.below hb2 HXA.out.lt)
       have hxc := HX2.out.cell
       have hxf := HX2.out.free
       have hxl := HX2.out.lt
       unfold nilLn
       refine oR hK ?_ (fun hHeld => ?_)
       ·try dsimp only
        exact HC1.out _ HB2.out
       clear hK K
       refine tkR 6 ?_
       refine tkR 7 ?_
       refine tkR 8 ?_
       refine r1R 10 (fun K hK => ?_)
       go_simp
       have HB3 := Lib.hid ((HB2.out.setCell (p := ⟨w1.heap.size, 0, none⟩) (Nat.le_refl _) (.slice none 0 0)).setCell (p := ⟨w1.heap.size, 1, none⟩) (Nat.le_refl _) (.slice none 0 0))
       refine oR hK ?_ (fun hHeld => ?_)
       ·try dsimp only
        exact HC1.out _ HB3.out
       clear hK K
       refine tkR 11 ?_
       refine wpAnyH_done (by kernel_rfl) ?_ _
       clear hxc hxf hxl
       go_wp2_with fail
       go_ret
       have HB4 := Lib.hid (HB1.out.trans (HB3.out.mono HB1.out.size))
       exact ⟨by unfold mvSO; rw [HMS.out]; rfl, own, by unfold mvSS; rw [HMS.out]; exact HS.out.keep (Fr.of_below HB4.out _), Fr.of_below HB4.out own, fun _ hq => .inl hq⟩
      ·exact AllReadyH.nil
    | some y =>
     have HLS : Hid (∀ W, Below w1.heap.size w1 W → Calls Tryz.prog 121 #[.agg #[.slice (some ⟨g1, 0, none⟩) st.x.n c1, .slice (some ⟨g2, 0, none⟩) st.x.m c2], .agg #[.int .i64 (nmF l1), .string l2]] W fun e W' => ∃ v, e = .returned (.tuple #[v, .bool true]) ∧ LnO W.heap.size W' v y ∧ Below W.heap.size W W') := fun W h => (lineStep_any g1 0 c1 g2 0 c2 st.x (nmF l1) l2 W (by omega) (by omega) (BkC.of_own (HS1.out.bs.below h HS1.out.bs.lt)) (IC.of_own (HS1.out.tr.below h HS1.out.tr.lt))).mono fun e W' ⟨h1, h2⟩ => by
      rcases h2 with ⟨h2, _⟩ | ⟨y', v, h2, h3, h4⟩
      ·rw [hso] at h2; cases h2
      ·rw [hso] at h2
       cases h2
       exact ⟨v, h3, h4, h1⟩
     have HSO2 := Lib.hid hso
     clear hso
     refine wpAnyH_ready (rs := [5, 9]) (by kernel_rfl) (by simp) ?_
     refine c1R (fun K hK => ?_) ?_
     ·go_simp
      go_at_call 121
      go_must (refine Calls.mono (HLS.out _ HBd1.out) ?_)
      rintro e w2 ⟨v, rfl, hl2, hb2⟩
      have HL2 := Lib.hid (hl2.mono (D := w1.heap.size) HBd1.out.size)
      obtain ⟨p1, d1, p2, d2, rfl, _⟩ := hl2
      have HB2 : Hid (Below w1.heap.size w1 w2) := HBd1.out.trans (hb2.mono HBd1.out.size)
      refine oR hK ?_ (fun hHeld => ?_)
      ·try dsimp only
       exact HC1.out _ HB2.out
      clear hK K
      refine tkR 6 ?_
      refine tkR 7 ?_
      refine tkR 8 ?_
      refine r1R 9 (fun K hK => ?_)
      go_simp
      skip
      refine oR hK ?_ (fun hHeld => ?_)
      ·try dsimp only
       exact HC1.out _ (HB2.out.alloc HB2.out.size _)
      clear hK K
      refine r1R 10 (fun K hK => ?_)
      go_simp
      skip
      refine oR hK ?_ (fun hHeld => ?_)
      ·try dsimp only
       exact HC1.out _ (HB2.out.alloc HB2.out.size _)
      clear hK K
      refine tkR 11 ?_
      refine wpAnyH_done (by kernel_rfl) ?_ _
      have HB3 := Lib.hid (HB2.out.alloc HB2.out.size (.cells #[.slice (some ⟨p1, 0, none⟩) y.n d1, .slice (some ⟨p2, 0, none⟩) y.m d2] 31))
      have HX3 : Hid (Bx (w2.alloc (.cells #[.slice (some ⟨p1, 0, none⟩) y.n d1, .slice (some ⟨p2, 0, none⟩) y.m d2] 31)) w2.heap.size 31 #[.slice (some ⟨p1, 0, none⟩) y.n d1, .slice (some ⟨p2, 0, none⟩) y.m d2]) := Bx.new _ _ _
      have HL3 := Lib.hid (HL2.out.below (below_all w2 (.cells #[.slice (some ⟨p1, 0, none⟩) y.n d1, .slice (some ⟨p2, 0, none⟩) y.m d2] 31)) (Nat.le_refl _))
      have hxc := HX3.out.cell
      have hbn : s ≠ w2.heap.size := fun e => by have := (HSO.out s (.inl rfl)).2; have := HB2.out.size; have := HB1.out.size; omega
      generalize w2.alloc (.cells #[.slice (some ⟨p1, 0, none⟩) y.n d1, .slice (some ⟨p2, 0, none⟩) y.m d2] 31) = w3 at *
      clear hHeld
      have HS3 := Lib.hid (HS1.out.fr (Fr.of_below HB3.out (fun _ => False)) (fun _ _ h => h))
      have HB4 := Lib.hid (HB1.out.trans (HB3.out.mono HB1.out.size))
      have hsb := HS3.out.box.lt
      have hsf := HS3.out.box.free
      have hsc := HS3.out.box.cell
      have HX4 := Lib.hid (HX1.out.below HB3.out HX1.out.lt)
      have hmc := HX4.out.cell
      have hbm : s ≠ w.heap.size := fun e => by have := (HSO.out s (.inl rfl)).2; omega
      by_cases hf : st.ms.length = 100
      ·have HMS : Hid (mvSt st (nmF l1) l2 = none) := mvSt_full hf
       have hq1 : decide ((st.ms.length : Int) = 100) = true := by simp [hf]
       have hq2 : ((st.ms.length : Int) == 100) = true := by simp [hf]
       clear hf
       go_wp2_with fail
       go_ret
       exact ⟨by unfold mvSO; rw [HMS.out]; rfl, own, by unfold mvSS; rw [HMS.out]; exact HS.out.keep (Fr.of_below HB4.out _), Fr.of_below HB4.out own, fun _ hq => .inl hq⟩
      ·have HMS : Hid (mvSt st (nmF l1) l2 = some (rcS { st with x := y } (nmF l1) l2)) := mvSt_some HSO2.out hf
       have hq1 : decide ((st.ms.length : Int) = 100) = false := by simp; omega
       have hq2 : ((st.ms.length : Int) == 100) = false := by simp; omega
       clear hf
       go_wp2_with fail
       have hnew := HS3.out.setLn HL3.out (fun q hq => by have := (HSO.out q hq).2; have := HB1.out.size; omega) (Nat.le_trans hz HB1.out.size)
       have HFN : Hid (Fr own w ((w3.setCell ⟨s, 0, none⟩ (.slice (some ⟨p1, 0, none⟩) y.n d1)).setCell ⟨s, 1, none⟩ (.slice (some ⟨p2, 0, none⟩) y.m d2))) := (Fr.of_below HB4.out own).trans (((Fr.set w3 ⟨s, 0, none⟩ (.slice (some ⟨p1, 0, none⟩) y.n d1)).trans (Fr.set _ ⟨s, 1, none⟩ (.slice (some ⟨p2, 0, none⟩) y.m d2))).mono (fun q _ e => (HO.out q).2 (.inl e)))
       refine (record_any z s (nmF l1) l2 { st with x := y } (ownS s p1 p2 (.slice am st.ms.length cm) vt) _ (Nat.le_trans hz HFN.out.size) ⟨p1, d1, p2, d2, _, _, hnew.1, fun _ => Iff.rfl⟩ hms hts).mono ?_
       rintro e w6 ⟨rfl, own', h1, h2, h3⟩
       have HE := Lib.hid (mv_end HO.out HFN.out h2 (Nat.le_trans HB1.out.size hnew.2.1) (Nat.le_trans HB1.out.size hnew.2.2) h3)
       have H1 := Lib.hid h1
       clear h1 h2 h3 hnew HFN hsc hsf hsb hmc hxc
       go_wp2_with fail
       go_ret
       exact ⟨by unfold mvSO; rw [HMS.out]; rfl, own', by unfold mvSS; rw [HMS.out]; exact H1.out, HE.out.1, HE.out.2⟩
     ·refine c1R (fun K hK => ?_) ?_
      ·have HXA : Hid (Bx (w1.drew.alloc (.cells #[.slice none 0 0, .slice none 0 0] 31)) w1.heap.size 31 #[.slice none 0 0, .slice none 0 0]) := Bx.newAt rfl
       go_simp
       skip
       refine oR hK ?_ (fun hHeld => ?_)
       ·try dsimp only
        exact HC1.out _ HBA1.out
       clear hK K
       refine r1R 5 (fun K hK => ?_)
       go_simp
       go_at_call 121
       go_must (refine Calls.mono (HLS.out _ HBA1.out) ?_)
       rintro e w2 ⟨v, rfl, hl2, hb2⟩
       have HL0 := Lib.hid hl2
       obtain ⟨p1, d1, p2, d2, rfl, _⟩ := hl2
       have HB2 : Hid (Below w1.heap.size w1 w2) := HBA1.out.trans (hb2.mono HBA1.out.size)
       have HX2 := Lib.hid (HXA.out.below hb2 HXA.out.lt)
       have hxc := HX2.out.cell
       have hxf := HX2.out.free
       have hxl := HX2.out.lt
       refine oR hK ?_ (fun hHeld => ?_)
       ·try dsimp only
        exact HC1.out _ HB2.out
       clear hK K
       refine tkR 6 ?_
       refine tkR 7 ?_
       refine tkR 8 ?_
       refine r1R 10 (fun K hK => ?_)
       go_simp
       have HB3 := Lib.hid ((HB2.out.setCell (p := ⟨w1.heap.size, 0, none⟩) (Nat.le_refl _) (.slice (some ⟨p1, 0, none⟩) y.n d1)).setCell (p := ⟨w1.heap.size, 1, none⟩) (Nat.le_refl _) (.slice (some ⟨p2, 0, none⟩) y.m d2))
       refine oR hK ?_ (fun hHeld => ?_)
       ·try dsimp only
        exact HC1.out _ HB3.out
       clear hK K
       refine tkR 11 ?_
       refine wpAnyH_done (by kernel_rfl) ?_ _
       clear hxc hxf hxl
       have HX3 : Hid (Bx ((w2.setCell ⟨w1.heap.size, 0, none⟩ (.slice (some ⟨p1, 0, none⟩) y.n d1)).setCell ⟨w1.heap.size, 1, none⟩ (.slice (some ⟨p2, 0, none⟩) y.m d2)) w1.heap.size 31 #[.slice (some ⟨p1, 0, none⟩) y.n d1, .slice (some ⟨p2, 0, none⟩) y.m d2]) := by
        have hb := (HX2.out.set 0 (.slice (some ⟨p1, 0, none⟩) y.n d1)).set 1 (.slice (some ⟨p2, 0, none⟩) y.m d2)
        show Bx _ _ _ _
        simpa using hb
       have HL3 := Lib.hid (lno_early (b := w1.heap.size) (by simp) HL0.out)
       have hxc := HX3.out.cell
       have hbn : s ≠ w1.heap.size := fun e => by have := (HSO.out s (.inl rfl)).2; have := HB1.out.size; omega
       clear HX2 HXA HL0
       generalize (w2.setCell ⟨w1.heap.size, 0, none⟩ (.slice (some ⟨p1, 0, none⟩) y.n d1)).setCell ⟨w1.heap.size, 1, none⟩ (.slice (some ⟨p2, 0, none⟩) y.m d2) = w3 at *
       clear hHeld
       have HS3 := Lib.hid (HS1.out.fr (Fr.of_below HB3.out (fun _ => False)) (fun _ _ h => h))
       have HB4 := Lib.hid (HB1.out.trans (HB3.out.mono HB1.out.size))
       have hsb := HS3.out.box.lt
       have hsf := HS3.out.box.free
       have hsc := HS3.out.box.cell
       have HX4 := Lib.hid (HX1.out.below HB3.out HX1.out.lt)
       have hmc := HX4.out.cell
       have hbm : s ≠ w.heap.size := fun e => by have := (HSO.out s (.inl rfl)).2; omega
       by_cases hf : st.ms.length = 100
       ·have HMS : Hid (mvSt st (nmF l1) l2 = none) := mvSt_full hf
        have hq1 : decide ((st.ms.length : Int) = 100) = true := by simp [hf]
        have hq2 : ((st.ms.length : Int) == 100) = true := by simp [hf]
        clear hf
        go_wp2_with fail
        go_ret
        exact ⟨by unfold mvSO; rw [HMS.out]; rfl, own, by unfold mvSS; rw [HMS.out]; exact HS.out.keep (Fr.of_below HB4.out _), Fr.of_below HB4.out own, fun _ hq => .inl hq⟩
       ·have HMS : Hid (mvSt st (nmF l1) l2 = some (rcS { st with x := y } (nmF l1) l2)) := mvSt_some HSO2.out hf
        have hq1 : decide ((st.ms.length : Int) = 100) = false := by simp; omega
        have hq2 : ((st.ms.length : Int) == 100) = false := by simp; omega
        clear hf
        go_wp2_with fail
        have hnew := HS3.out.setLn HL3.out (fun q hq => by have := (HSO.out q hq).2; have := HB1.out.size; omega) (Nat.le_trans hz HB1.out.size)
        have HFN : Hid (Fr own w ((w3.setCell ⟨s, 0, none⟩ (.slice (some ⟨p1, 0, none⟩) y.n d1)).setCell ⟨s, 1, none⟩ (.slice (some ⟨p2, 0, none⟩) y.m d2))) := (Fr.of_below HB4.out own).trans (((Fr.set w3 ⟨s, 0, none⟩ (.slice (some ⟨p1, 0, none⟩) y.n d1)).trans (Fr.set _ ⟨s, 1, none⟩ (.slice (some ⟨p2, 0, none⟩) y.m d2))).mono (fun q _ e => (HO.out q).2 (.inl e)))
        refine (record_any z s (nmF l1) l2 { st with x := y } (ownS s p1 p2 (.slice am st.ms.length cm) vt) _ (Nat.le_trans hz HFN.out.size) ⟨p1, d1, p2, d2, _, _, hnew.1, fun _ => Iff.rfl⟩ hms hts).mono ?_
        rintro e w6 ⟨rfl, own', h1, h2, h3⟩
        have HE := Lib.hid (mv_end HO.out HFN.out h2 (Nat.le_trans HB1.out.size hnew.2.1) (Nat.le_trans HB1.out.size hnew.2.2) h3)
        have H1 := Lib.hid h1
        clear h1 h2 h3 hnew HFN hsc hsf hsb hmc hxc
        go_wp2_with fail
        go_ret
        exact ⟨by unfold mvSO; rw [HMS.out]; rfl, own', by unfold mvSS; rw [HMS.out]; exact H1.out, HE.out.1, HE.out.2⟩
      ·exact AllReadyH.nil
   ·exact AllReadyH.nil
def StC (w : World) (b n : Nat) (f : Nat → ByteArray) : Prop := ∀ k, k < n → w.cell? ⟨b, k, none⟩ = some (.string (f k))
theorem of_any (R m b n c : Nat) (f : Nat → ByteArray) (w : World) (hn : 1 ≤ n ∧ n ≤ 1000) (hm : m ≤ 100000) (hr : RdL w R m) (hb : b ≠ R) (hs : StC w b n f) (hbl : b < w.heap.size) :
    Calls Tryz.prog 53 #[.pointer (some ⟨R, 0, none⟩), .slice (some ⟨b, 0, none⟩) n c] w fun e w' => (∃ k, k < n ∧ e = .returned (.string (f k))) ∧ RdL w' R (m + 1) ∧ w.grownBy w' (some R) := by
  have HS := Lib.hid hs
  have HP := Lib.hid (pickN_any R m n w (by omega) (by omega) hr)
  clear hs hr
  go_enter Tryz.func53, Tryz.ntmps53
  go_wp2_with fail
  refine HP.out.mono ?_
  rintro e w1 ⟨k, rfl, hk, hr1, hg1⟩
  have hc : w1.cell? ⟨b, k, none⟩ = some (.string (f k)) := (gcell hg1 b k hbl hb).trans (HS.out k hk)
  have HR1 := Lib.hid hr1
  have HG1 := Lib.hid hg1
  have hki : (k : Int) < (n : Int) := by omega
  clear hr1 hg1
  go_wp2_with fail
  go_ret
  exact ⟨⟨k, hk, rfl⟩, HR1.out, HG1.out⟩
section
variable {w wr w' : World} {R q M M' : Nat}
end
def OwnN (w : World) (g cap : Nat) (ns : List (Int × ByteArray)) : Prop := Own w g cap ns.length 2 155 (mvF (nM ns) (nL ns))
theorem OwnN.nt {w : World} {g cap : Nat} {ns : List (Int × ByteArray)} (h : OwnN w g cap ns) : NtC w g 0 ns := MvsC.of_own h
theorem OwnN.ext {w : World} {g cap : Nat} {ns : List (Int × ByteArray)} (h : OwnN w g cap ns) (z : Int × ByteArray) : Own w g cap ns.length 2 155 (mvF (nM (ns ++ [z])) (nL (ns ++ [z]))) :=
 Own.congr h (mvF_congr (fun _ hk => (nM_old (z := z) hk).1.symm) (fun _ hk => (nM_old (z := z) hk).2.symm))
theorem ntF_new (ns : List (Int × ByteArray)) (z : Int × ByteArray) : ∀ j, j < 2 → [Value.int .i64 z.1, .string z.2][j]? = some (mvF (nM (ns ++ [z])) (nL (ns ++ [z])) (ns.length * 2 + j)) := fun j hj => by
 match j, hj with
 | 0, _ => unfold mvF; rw [if_pos (by omega), show (ns.length * 2 + 0) / 2 = ns.length by omega, nM_new.1]; rfl
 | 1, _ => unfold mvF; rw [if_neg (by omega), show (ns.length * 2 + 1) / 2 = ns.length by omega, nM_new.2]; rfl
def RuRes (ns : List (Int × ByteArray)) (ok : Bool) (w : World) (e : Ending) (w' : World) : Prop :=
 (∃ g cap, e = .returned (.tuple #[.slice (some ⟨g, 0, none⟩) (List.length ns) cap, .bool ok]) ∧ OwnN w' g cap ns ∧ w.heap.size ≤ g) ∧ Below w.heap.size w w'
end Go.Proofs.YtlkdmpfifpkpaaaGreatDoor

