/-
  Parts of the proof of fnExecuteFit_proved: Jo Jq Ki Kj Kk Ha Jr Js Ju Yg. No condition.
-/
import Derived.Test.YtlkdmpfifpkpaaaGreatDoorChecked
import Derived.Laws.BitsAllLaws
import Derived.Deep.QuietTactic
import Derived.BigQuiet
import Derived.Lib.Builder
import Derived.Lib.AppendStr
import Derived.Lib.UnsafeStr
import Derived.Lib.Strings
import Derived.Lib.Slices
import Derived.Laws.Externs
import Derived.Shelf.RegionOpen
import Derived.Maps.AppendAt
import Derived.RangeFuncNested
import Derived.RangeFuncBound
import Derived.RangeFuncCalls
import Derived.RangeFuncLeaves
import Derived.RangeFuncBox
import Derived.Shelf.Abstract
import Derived.OwnWalkIn
import Derived.TacticsInMore
import Derived.LoopNIn
import Derived.LoopIn
import Derived.WalkLawsBesides
import Derived.Lib.SplitLaws
import Derived.Recover
import Derived.Defers
import Derived.Lib.SlBytesRow
import Derived.Deep.DeepCutAuto
import Derived.Lib.ItoaLen
import Derived.OrdersIn
import Derived.OrdersHeld
import Derived.Deep.RegionHeld
import Derived.Deep.RegionWith
import Derived.Shelf.Strings.Builder1
import Derived.Shelf.Strings.Builder2
import Derived.Shelf.Strings.OnBuilder
import Derived.Shelf.Strings.BuilderF
import Derived.Shelf.Strconv.Itoa0
import Derived.Shelf.Strconv.Itoa1
import Derived.Shelf.LaysM
import Derived.Shelf.Strconv.Itoa2
import Derived.Shelf.Strconv.Itoa3
import Derived.Shelf.Strings.Search1
import Derived.Shelf.Strings.Search2
import Derived.Shelf.Strings.Search3
import Derived.Shelf.Strings.Count
import Derived.Shelf.Strings.Shaped
import Derived.Shelf.Strings.Split
import Derived.Shelf.Strings.SplitShaped
import Derived.Shelf.Unicode.DecodeSlow
import Derived.Test.YtlkdmpfifpkpaaaGreatDoorProg
import Derived.Lib.IndexLaws
import Derived.WalkKit
import Derived.WalkSpells
import Derived.Lib.Hide
import Derived.Deep.RegionHeld3
import Derived.Deep.DeepFit
import Derived.Lib.ItoaMem
import Derived.Lib.AppendIntMem
import Derived.Deep.DrawnRows
import Derived.StillTailTactics
import Derived.Test.YtlkdmpfifpkpaaaGreatDoorU01
import Derived.Test.YtlkdmpfifpkpaaaGreatDoorU02
import Derived.Test.YtlkdmpfifpkpaaaGreatDoorU03
import Derived.Test.YtlkdmpfifpkpaaaGreatDoorU04
import Derived.Test.YtlkdmpfifpkpaaaGreatDoorU05
import Derived.Test.YtlkdmpfifpkpaaaGreatDoorU06
import Derived.Test.YtlkdmpfifpkpaaaGreatDoorU07
import Derived.Test.YtlkdmpfifpkpaaaGreatDoorU08
namespace Go.Proofs.YtlkdmpfifpkpaaaGreatDoor
open Go.RowKit

/-- the session behind a new line, and what it says -/
def lwS (st : Ses) (l1 l2 : ByteArray) : Ses := match nwO (nmF l1) (nmF l2) with | some y => { x := y, tm := 0, ms := [], ts := [] } | none => st
def lwO (l1 l2 : ByteArray) : ByteArray := match nwO (nmF l1) (nmF l2) with | some _ => okT | none => noT
theorem ses_line {z s g1 c1 g2 c2 : Nat} {st : Ses} {y : Ln} {own : Nat → Prop} {w w5 : World} (hb : Below w.heap.size w w5) (hS : StS z st own w5 s) (hl : LnO w.heap.size w5 (.agg #[.slice (some ⟨g1, 0, none⟩) y.n c1, .slice (some ⟨g2, 0, none⟩) y.m c2]) y) (hsl : s < w.heap.size) (hz : z ≤ w.heap.size) (hso : own s) :
    ∃ own', StS z { x := y, tm := 0, ms := [], ts := [] } own' ((((((w5.setCell ⟨s, 0, none⟩ (.slice (some ⟨g1, 0, none⟩) y.n c1)).setCell ⟨s, 1, none⟩ (.slice (some ⟨g2, 0, none⟩) y.m c2)).setCell ⟨s, 2, none⟩ (.slice none 0 0)).setCell ⟨s, 3, none⟩ (.int .i64 0)).setCell ⟨s, 4, none⟩ (.slice none 0 0)).setCell ⟨s, 5, none⟩ (.slice none 0 0)) s ∧ Fr own w ((((((w5.setCell ⟨s, 0, none⟩ (.slice (some ⟨g1, 0, none⟩) y.n c1)).setCell ⟨s, 1, none⟩ (.slice (some ⟨g2, 0, none⟩) y.m c2)).setCell ⟨s, 2, none⟩ (.slice none 0 0)).setCell ⟨s, 3, none⟩ (.int .i64 0)).setCell ⟨s, 4, none⟩ (.slice none 0 0)).setCell ⟨s, 5, none⟩ (.slice none 0 0)) ∧ ∀ q, own' q → own q ∨ w.heap.size ≤ q := by
  obtain ⟨p1, d1, p2, d2, vm, vt, h1, _⟩ := hS
  obtain ⟨_, _, _, _, e, o1, o2, h12, hg1, hg2⟩ := hl
  cases e
  have f : ∀ (W : World) (i : Nat) (v : Value), Fr (fun q => q = s) W (W.setCell ⟨s, i, none⟩ v) := fun W i v => Fr.set W ⟨s, i, none⟩ v
  have F := ((((((f w5 0 (.slice (some ⟨g1, 0, none⟩) y.n c1)).trans (f _ 1 (.slice (some ⟨g2, 0, none⟩) y.m c2))).trans (f _ 2 (.slice none 0 0))).trans (f _ 3 (.int .i64 0))).trans (f _ 4 (.slice none 0 0))).trans (f _ 5 (.slice none 0 0)))
  have hbx := (((((h1.box.set 0 (.slice (some ⟨g1, 0, none⟩) y.n c1)).set 1 (.slice (some ⟨g2, 0, none⟩) y.m c2)).set 2 (.slice none 0 0)).set 3 (.int .i64 0)).set 4 (.slice none 0 0)).set 5 (.slice none 0 0)
  refine ⟨ownS s g1 g2 (.slice none 0 0) (.slice none 0 0), ⟨g1, c1, g2, c2, _, _, ⟨?_, o1.fr F (by omega), o2.fr F (by omega), .inr ⟨rfl, rfl⟩, .inr ⟨rfl, rfl⟩, h12, by omega, by omega, fun q hq => (by cases hq), fun q hq => (by cases hq), by omega, by omega, h1.zs⟩, fun _ => Iff.rfl⟩, (Fr.of_below hb own).trans (F.mono (fun q _ e => by rw [e]; exact hso)), fun q hq => ?_⟩
  · simpa using hbx
  · rcases hq with rfl | rfl | rfl | hq | hq
    · exact .inl hso
    · exact .inr hg1
    · exact .inr hg2
    · cases hq
    · cases hq
set_option linter.unusedSimpArgs false in
set_option maxRecDepth 100000 in
set_option maxHeartbeats 2000000 in
theorem doLine_any (z s bw n c : Nat) (l1 l2 : ByteArray) (st : Ses) (own : Nat → Prop) (w : World) (hn : 3 ≤ n) (hz : z ≤ w.heap.size) (hS : StS z st own w s) (hw1 : w.cell? ⟨bw, 1, none⟩ = some (.string l1)) (hw2 : w.cell? ⟨bw, 2, none⟩ = some (.string l2)) :
    Calls Tryz.prog 96 #[.pointer (some ⟨s, 0, none⟩), .slice (some ⟨bw, 0, none⟩) n c] w (Md z (lwS st l1 l2) (lwO l1 l2) s own w) := by
  have hbl : bw < w.heap.size := World.block_lt_of_cell? w ⟨bw, 1, none⟩ hw1
  have HSL : Hid (s < w.heap.size) := (hS.oz.2 s hS.oz.1).2
  have HSO : Hid (own s) := hS.oz.1
  have HW1 := Lib.hid hw1
  have HW2 := Lib.hid hw2
  have HS := Lib.hid hS
  clear hw1 hw2 hS
  have HCC : Hid (∀ W, Below w.heap.size w W → W.cell? ⟨bw, 1, none⟩ = some (.string l1) ∧ W.cell? ⟨bw, 2, none⟩ = some (.string l2)) := fun W h => ⟨by rw [h.cell (p := ⟨bw, 1, none⟩) hbl]; exact HW1.out, by rw [h.cell (p := ⟨bw, 2, none⟩) hbl]; exact HW2.out⟩
  have hn1 : (1 : Int) < (n : Int) := by omega
  have hn2 : 1 < n := by omega
  have hn3 : (2 : Int) < (n : Int) := by omega
  have hn4 : 2 < n := by omega
  have HBd : Hid (Below w.heap.size w w.drew) := (Below.refl _ _).drew
  have hb1 := nmF_bd l1
  have HST : Hid (lwS st l1 l2 = match nwO (nmF l1) (nmF l2) with | some y => { x := y, tm := 0, ms := [], ts := [] } | none => st) := rfl
  have HOT : Hid (lwO l1 l2 = match nwO (nmF l1) (nmF l2) with | some _ => okT | none => noT) := rfl
  cases ho : nwO (nmF l1) (nmF l2) with
  | none =>
    rw [ho] at HST HOT
    have HO := Lib.hid ho
    clear ho
    go_enter Tryz.func96, Tryz.ntmps96
    go_wp2_with fail
    refine wp_region_held_drew (S := fun W => W.cell? ⟨bw, 1, none⟩ = some (.string l1) ∧ W.cell? ⟨bw, 2, none⟩ = some (.string l2)) (by kernel_rfl) (HCC.out _ HBd.out) (fun hHeld => ?_)
    have HBA : Hid (Below w.heap.size w (w.drew.alloc (.cells #[.slice none 0 0, .slice none 0 0] 31))) := HBd.out.alloc HBd.out.size _
    refine wpAnyH_take (i := 0) (oi := ?_) (v := ?_) ?_ (by kernel_rfl) (by kernel_rfl) (by kernel_rfl) ?_ ?_ (by assumption) ?_
    rotate_left 2
    · simp only [List.getElem?_toArray, List.getElem?_cons_succ, List.getElem?_cons_zero]; rfl
    · exact fun _ _ _ h => h
    · first
        | (refine Or.inr ⟨?_, ?_⟩ <;> rfl)
        | (refine Or.inl ⟨?_, ?_⟩; · rfl
           intro w hSw; (try dsimp only at hSw); go_simp; (try with_reducible rfl); done)
    try simp only [Act.put, List.setIfInBounds_toArray, List.set_cons_zero, List.set_cons_succ]
    refine wpAnyH_take (i := 1) (oi := ?_) (v := ?_) ?_ (by kernel_rfl) (by kernel_rfl) (by kernel_rfl) ?_ ?_ (by assumption) ?_
    rotate_left 2
    · simp only [List.getElem?_toArray, List.getElem?_cons_succ, List.getElem?_cons_zero]; rfl
    · exact fun _ _ _ h => h
    · first
        | (refine Or.inr ⟨?_, ?_⟩ <;> rfl)
        | (refine Or.inl ⟨?_, ?_⟩; · rfl
           intro w hSw; (try dsimp only at hSw); go_simp; (try with_reducible rfl); done)
    try simp only [Act.put, List.setIfInBounds_toArray, List.set_cons_zero, List.set_cons_succ]
    refine wpAnyH_take (i := 2) (oi := ?_) (v := ?_) ?_ (by kernel_rfl) (by kernel_rfl) (by kernel_rfl) ?_ ?_ (by assumption) ?_
    rotate_left 2
    · simp only [List.getElem?_toArray, List.getElem?_cons_succ, List.getElem?_cons_zero]; rfl
    · exact fun _ _ _ h => h
    · first
        | (refine Or.inr ⟨?_, ?_⟩ <;> rfl)
        | (refine Or.inl ⟨?_, ?_⟩; · rfl
           intro w hSw; (try dsimp only at hSw); go_simp; (try with_reducible rfl); done)
    try simp only [Act.put, List.setIfInBounds_toArray, List.set_cons_zero, List.set_cons_succ]
    refine wpAnyH_take (i := 4) (oi := ?_) (v := ?_) ?_ (by kernel_rfl) (by kernel_rfl) (by kernel_rfl) ?_ ?_ (by assumption) ?_
    rotate_left 2
    · simp only [List.getElem?_toArray, List.getElem?_cons_succ, List.getElem?_cons_zero]; rfl
    · exact fun _ _ _ h => h
    · first
        | (refine Or.inr ⟨?_, ?_⟩ <;> rfl)
        | (refine Or.inl ⟨?_, ?_⟩; · rfl
           intro w hSw; (try dsimp only at hSw); go_simp; (try with_reducible rfl); done)
    try simp only [Act.put, List.setIfInBounds_toArray, List.set_cons_zero, List.set_cons_succ]
    refine wpAnyH_take (i := 5) (oi := ?_) (v := ?_) ?_ (by kernel_rfl) (by kernel_rfl) (by kernel_rfl) ?_ ?_ (by assumption) ?_
    rotate_left 2
    · simp only [List.getElem?_toArray, List.getElem?_cons_succ, List.getElem?_cons_zero]; rfl
    · exact fun _ _ _ h => h
    · first
        | (refine Or.inr ⟨?_, ?_⟩ <;> rfl)
        | (refine Or.inl ⟨?_, ?_⟩; · rfl
           intro w hSw; (try dsimp only at hSw); go_simp; (try with_reducible rfl); done)
    try simp only [Act.put, List.setIfInBounds_toArray, List.set_cons_zero, List.set_cons_succ]
    refine wpAnyH_take (i := 6) (oi := ?_) (v := ?_) ?_ (by kernel_rfl) (by kernel_rfl) (by kernel_rfl) ?_ ?_ (by assumption) ?_
    rotate_left 2
    · simp only [List.getElem?_toArray, List.getElem?_cons_succ, List.getElem?_cons_zero]; rfl
    · exact fun _ _ _ h => h
    · first
        | (refine Or.inr ⟨?_, ?_⟩ <;> rfl)
        | (refine Or.inl ⟨?_, ?_⟩; · rfl
           intro w hSw; (try dsimp only at hSw); go_simp; (try with_reducible rfl); done)
    try simp only [Act.put, List.setIfInBounds_toArray, List.set_cons_zero, List.set_cons_succ]
    refine wpAnyH_ready (rs := [3, 12]) (by kernel_rfl) (by simp) ?_
    refine AllReadyH.cons (o := ?_) ?_ (fun K hK => ?_) ?_
    rotate_left 1
    · simp only [List.getElem?_toArray, List.getElem?_cons_succ, List.getElem?_cons_zero]; rfl
    · go_simp
      go_at_call 120
      go_must (refine Calls.mono (numberOf_any l1 _) ?_)
      rintro e w' ⟨rfl, rfl⟩
      refine hK.out _ _ ?_ (fun hHeld => ?_)
      · try dsimp only
        exact HCC.out _ HBd.out
      clear hK K
      try simp only [Act.put, List.setIfInBounds_toArray, List.set_cons_zero, List.set_cons_succ]
      refine wpAnyH_ready (rs := [7, 12]) (by kernel_rfl) (by simp) ?_
      refine AllReadyH.cons (o := ?_) ?_ (fun K hK => ?_) ?_
      rotate_left 1
      · simp only [List.getElem?_toArray, List.getElem?_cons_succ, List.getElem?_cons_zero]; rfl
      · go_simp
        go_at_call 120
        go_must (refine Calls.mono (numberOf_any l2 _) ?_)
        rintro e w' ⟨rfl, rfl⟩
        refine hK.out _ _ ?_ (fun hHeld => ?_)
        · try dsimp only
          exact HCC.out _ HBd.out
        clear hK K
        try simp only [Act.put, List.setIfInBounds_toArray, List.set_cons_zero, List.set_cons_succ]
        refine wpAnyH_ready (rs := [8, 12]) (by kernel_rfl) (by simp) ?_
        refine AllReadyH.cons (o := ?_) ?_ (fun K hK => ?_) ?_
        rotate_left 1
        · simp only [List.getElem?_toArray, List.getElem?_cons_succ, List.getElem?_cons_zero]; rfl
        · go_simp
          go_at_call 16
          go_must (refine Calls.mono (lineNew_any (nmF l1) (nmF l2) _ (by omega)) ?_)
          rintro e w2 ⟨hb2, h2⟩
          rcases h2 with ⟨_, rfl⟩ | ⟨_, _, h, _⟩
          rotate_left
          · rw [HO.out] at h; cases h
          have HB2 : Hid (Below w.heap.size w w2) := HBd.out.trans (hb2.mono HBd.out.size)
          unfold nilLn
          refine hK.out _ _ ?_ (fun hHeld => ?_)
          · try dsimp only
            exact HCC.out _ HB2.out
          clear hK K
          try simp only [Act.put, List.setIfInBounds_toArray, List.set_cons_zero, List.set_cons_succ]
          refine wpAnyH_take (i := 9) (oi := ?_) (v := ?_) ?_ (by kernel_rfl) (by kernel_rfl) (by kernel_rfl) ?_ ?_ (by assumption) ?_
          rotate_left 2
          · simp only [List.getElem?_toArray, List.getElem?_cons_succ, List.getElem?_cons_zero]; rfl
          · exact fun _ _ _ h => h
          · first
              | (refine Or.inr ⟨?_, ?_⟩ <;> rfl)
              | (refine Or.inl ⟨?_, ?_⟩; · rfl
                 intro w hSw; (try dsimp only at hSw); go_simp; (try with_reducible rfl); done)
          try simp only [Act.put, List.setIfInBounds_toArray, List.set_cons_zero, List.set_cons_succ]
          refine wpAnyH_take (i := 10) (oi := ?_) (v := ?_) ?_ (by kernel_rfl) (by kernel_rfl) (by kernel_rfl) ?_ ?_ (by assumption) ?_
          rotate_left 2
          · simp only [List.getElem?_toArray, List.getElem?_cons_succ, List.getElem?_cons_zero]; rfl
          · exact fun _ _ _ h => h
          · first
              | (refine Or.inr ⟨?_, ?_⟩ <;> rfl)
              | (refine Or.inl ⟨?_, ?_⟩; · rfl
                 intro w hSw; (try dsimp only at hSw); go_simp; (try with_reducible rfl); done)
          try simp only [Act.put, List.setIfInBounds_toArray, List.set_cons_zero, List.set_cons_succ]
          refine wpAnyH_take (i := 11) (oi := ?_) (v := ?_) ?_ (by kernel_rfl) (by kernel_rfl) (by kernel_rfl) ?_ ?_ (by assumption) ?_
          rotate_left 2
          · simp only [List.getElem?_toArray, List.getElem?_cons_succ, List.getElem?_cons_zero]; rfl
          · exact fun _ _ _ h => h
          · first
              | (refine Or.inr ⟨?_, ?_⟩ <;> rfl)
              | (refine Or.inl ⟨?_, ?_⟩; · rfl
                 intro w hSw; (try dsimp only at hSw); go_simp; (try with_reducible rfl); done)
          try simp only [Act.put, List.setIfInBounds_toArray, List.set_cons_zero, List.set_cons_succ]
          refine wpAnyH_ready (rs := [12]) (by kernel_rfl) (by simp) ?_
          refine AllReadyH.cons (o := ?_) ?_ (fun K hK => ?_) AllReadyH.nil
          rotate_left 1
          · simp only [List.getElem?_toArray, List.getElem?_cons_succ, List.getElem?_cons_zero]; rfl
          go_simp
          skip
          refine hK.out _ _ ?_ (fun hHeld => ?_)
          · try dsimp only
            exact HCC.out _ (HB2.out.alloc HB2.out.size _)
          clear hK K
          try simp only [Act.put, List.setIfInBounds_toArray, List.set_cons_zero, List.set_cons_succ]
          refine wpAnyH_ready (rs := [13]) (by kernel_rfl) (by simp) ?_
          refine AllReadyH.cons (o := ?_) ?_ (fun K hK => ?_) AllReadyH.nil
          rotate_left 1
          · simp only [List.getElem?_toArray, List.getElem?_cons_succ, List.getElem?_cons_zero]; rfl
          go_simp
          skip
          refine hK.out _ _ ?_ (fun hHeld => ?_)
          · try dsimp only
            exact HCC.out _ (HB2.out.alloc HB2.out.size _)
          clear hK K
          try simp only [Act.put, List.setIfInBounds_toArray, List.set_cons_zero, List.set_cons_succ]
          refine wpAnyH_take (i := 14) (oi := ?_) (v := ?_) ?_ (by kernel_rfl) (by kernel_rfl) (by kernel_rfl) ?_ ?_ (by assumption) ?_
          rotate_left 2
          · simp only [List.getElem?_toArray, List.getElem?_cons_succ, List.getElem?_cons_zero]; rfl
          · exact fun _ _ _ h => h
          · first
              | (refine Or.inr ⟨?_, ?_⟩ <;> rfl)
              | (refine Or.inl ⟨?_, ?_⟩; · rfl
                 intro w hSw; (try dsimp only at hSw); go_simp; (try with_reducible rfl); done)
          try simp only [Act.put, List.setIfInBounds_toArray, List.set_cons_zero, List.set_cons_succ]
          refine wpAnyH_done (by kernel_rfl) ?_ _
          have HB3 := Lib.hid (HB2.out.alloc HB2.out.size (.cells #[.slice none 0 0, .slice none 0 0] 31))
          go_wp2_with fail
          go_ret
          exact ⟨by rw [HOT.out]; rfl, own, by rw [HST.out]; exact HS.out.keep (Fr.of_below HB3.out _), Fr.of_below HB3.out own, fun _ hq => .inl hq⟩
        · refine AllReadyH.cons (o := ?_) ?_ (fun K hK => ?_) ?_
          rotate_left 1
          · simp only [List.getElem?_toArray, List.getElem?_cons_succ, List.getElem?_cons_zero]; rfl
          · go_simp
            skip
            refine hK.out _ _ ?_ (fun hHeld => ?_)
            · try dsimp only
              exact HCC.out _ HBA.out
            clear hK K
            try simp only [Act.put, List.setIfInBounds_toArray, List.set_cons_zero, List.set_cons_succ]
            have HXA : Hid (Bx (w.drew.alloc (.cells #[.slice none 0 0, .slice none 0 0] 31)) w.heap.size 31 #[.slice none 0 0, .slice none 0 0]) := Bx.newAt rfl
            refine wpAnyH_ready (rs := [8]) (by kernel_rfl) (by simp) ?_
            refine AllReadyH.cons (o := ?_) ?_ (fun K hK => ?_) AllReadyH.nil
            rotate_left 1
            · simp only [List.getElem?_toArray, List.getElem?_cons_succ, List.getElem?_cons_zero]; rfl
            go_simp
            go_at_call 16
            go_must (refine Calls.mono (lineNew_any (nmF l1) (nmF l2) _ (by omega)) ?_)
            rintro e w2 ⟨hb2, h2⟩
            rcases h2 with ⟨_, rfl⟩ | ⟨_, _, h, _⟩
            rotate_left
            · rw [HO.out] at h; cases h
            have HB2 : Hid (Below w.heap.size w w2) := HBA.out.trans (hb2.mono HBA.out.size)
            unfold nilLn
            have HX2 := Lib.hid (HXA.out.below hb2 HXA.out.lt)
            have hxc := HX2.out.cell
            have hxf := HX2.out.free
            have hxl := HX2.out.lt
            refine hK.out _ _ ?_ (fun hHeld => ?_)
            · try dsimp only
              exact HCC.out _ HB2.out
            clear hK K
            try simp only [Act.put, List.setIfInBounds_toArray, List.set_cons_zero, List.set_cons_succ]
            refine wpAnyH_take (i := 9) (oi := ?_) (v := ?_) ?_ (by kernel_rfl) (by kernel_rfl) (by kernel_rfl) ?_ ?_ (by assumption) ?_
            rotate_left 2
            · simp only [List.getElem?_toArray, List.getElem?_cons_succ, List.getElem?_cons_zero]; rfl
            · exact fun _ _ _ h => h
            · first
                | (refine Or.inr ⟨?_, ?_⟩ <;> rfl)
                | (refine Or.inl ⟨?_, ?_⟩; · rfl
                   intro w hSw; (try dsimp only at hSw); go_simp; (try with_reducible rfl); done)
            try simp only [Act.put, List.setIfInBounds_toArray, List.set_cons_zero, List.set_cons_succ]
            refine wpAnyH_take (i := 10) (oi := ?_) (v := ?_) ?_ (by kernel_rfl) (by kernel_rfl) (by kernel_rfl) ?_ ?_ (by assumption) ?_
            rotate_left 2
            · simp only [List.getElem?_toArray, List.getElem?_cons_succ, List.getElem?_cons_zero]; rfl
            · exact fun _ _ _ h => h
            · first
                | (refine Or.inr ⟨?_, ?_⟩ <;> rfl)
                | (refine Or.inl ⟨?_, ?_⟩; · rfl
                   intro w hSw; (try dsimp only at hSw); go_simp; (try with_reducible rfl); done)
            try simp only [Act.put, List.setIfInBounds_toArray, List.set_cons_zero, List.set_cons_succ]
            refine wpAnyH_take (i := 11) (oi := ?_) (v := ?_) ?_ (by kernel_rfl) (by kernel_rfl) (by kernel_rfl) ?_ ?_ (by assumption) ?_
            rotate_left 2
            · simp only [List.getElem?_toArray, List.getElem?_cons_succ, List.getElem?_cons_zero]; rfl
            · exact fun _ _ _ h => h
            · first
                | (refine Or.inr ⟨?_, ?_⟩ <;> rfl)
                | (refine Or.inl ⟨?_, ?_⟩; · rfl
                   intro w hSw; (try dsimp only at hSw); go_simp; (try with_reducible rfl); done)
            try simp only [Act.put, List.setIfInBounds_toArray, List.set_cons_zero, List.set_cons_succ]
            refine wpAnyH_ready (rs := [13]) (by kernel_rfl) (by simp) ?_
            refine AllReadyH.cons (o := ?_) ?_ (fun K hK => ?_) AllReadyH.nil
            rotate_left 1
            · simp only [List.getElem?_toArray, List.getElem?_cons_succ, List.getElem?_cons_zero]; rfl
            go_simp
            have HB3 := Lib.hid ((HB2.out.setCell (p := ⟨w.heap.size, 0, none⟩) (Nat.le_refl _) (.slice none 0 0)).setCell (p := ⟨w.heap.size, 1, none⟩) (Nat.le_refl _) (.slice none 0 0))
            refine hK.out _ _ ?_ (fun hHeld => ?_)
            · try dsimp only
              exact HCC.out _ HB3.out
            clear hK K
            try simp only [Act.put, List.setIfInBounds_toArray, List.set_cons_zero, List.set_cons_succ]
            refine wpAnyH_take (i := 14) (oi := ?_) (v := ?_) ?_ (by kernel_rfl) (by kernel_rfl) (by kernel_rfl) ?_ ?_ (by assumption) ?_
            rotate_left 2
            · simp only [List.getElem?_toArray, List.getElem?_cons_succ, List.getElem?_cons_zero]; rfl
            · exact fun _ _ _ h => h
            · first
                | (refine Or.inr ⟨?_, ?_⟩ <;> rfl)
                | (refine Or.inl ⟨?_, ?_⟩; · rfl
                   intro w hSw; (try dsimp only at hSw); go_simp; (try with_reducible rfl); done)
            try simp only [Act.put, List.setIfInBounds_toArray, List.set_cons_zero, List.set_cons_succ]
            refine wpAnyH_done (by kernel_rfl) ?_ _
            clear hxc hxf hxl
            go_wp2_with fail
            go_ret
            exact ⟨by rw [HOT.out]; rfl, own, by rw [HST.out]; exact HS.out.keep (Fr.of_below HB3.out _), Fr.of_below HB3.out own, fun _ hq => .inl hq⟩
          · exact AllReadyH.nil
      · refine AllReadyH.cons (o := ?_) ?_ (fun K hK => ?_) ?_
        rotate_left 1
        · simp only [List.getElem?_toArray, List.getElem?_cons_succ, List.getElem?_cons_zero]; rfl
        · go_simp
          skip
          refine hK.out _ _ ?_ (fun hHeld => ?_)
          · try dsimp only
            exact HCC.out _ HBA.out
          clear hK K
          try simp only [Act.put, List.setIfInBounds_toArray, List.set_cons_zero, List.set_cons_succ]
          refine wpAnyH_ready (rs := [7]) (by kernel_rfl) (by simp) ?_
          refine AllReadyH.cons (o := ?_) ?_ (fun K hK => ?_) AllReadyH.nil
          rotate_left 1
          · simp only [List.getElem?_toArray, List.getElem?_cons_succ, List.getElem?_cons_zero]; rfl
          go_simp
          go_at_call 120
          go_must (refine Calls.mono (numberOf_any l2 _) ?_)
          rintro e w' ⟨rfl, rfl⟩
          refine hK.out _ _ ?_ (fun hHeld => ?_)
          · try dsimp only
            exact HCC.out _ HBA.out
          clear hK K
          try simp only [Act.put, List.setIfInBounds_toArray, List.set_cons_zero, List.set_cons_succ]
          have HXA : Hid (Bx (w.drew.alloc (.cells #[.slice none 0 0, .slice none 0 0] 31)) w.heap.size 31 #[.slice none 0 0, .slice none 0 0]) := Bx.newAt rfl
          refine wpAnyH_ready (rs := [8]) (by kernel_rfl) (by simp) ?_
          refine AllReadyH.cons (o := ?_) ?_ (fun K hK => ?_) AllReadyH.nil
          rotate_left 1
          · simp only [List.getElem?_toArray, List.getElem?_cons_succ, List.getElem?_cons_zero]; rfl
          go_simp
          go_at_call 16
          go_must (refine Calls.mono (lineNew_any (nmF l1) (nmF l2) _ (by omega)) ?_)
          rintro e w2 ⟨hb2, h2⟩
          rcases h2 with ⟨_, rfl⟩ | ⟨_, _, h, _⟩
          rotate_left
          · rw [HO.out] at h; cases h
          have HB2 : Hid (Below w.heap.size w w2) := HBA.out.trans (hb2.mono HBA.out.size)
          unfold nilLn
          have HX2 := Lib.hid (HXA.out.below hb2 HXA.out.lt)
          have hxc := HX2.out.cell
          have hxf := HX2.out.free
          have hxl := HX2.out.lt
          refine hK.out _ _ ?_ (fun hHeld => ?_)
          · try dsimp only
            exact HCC.out _ HB2.out
          clear hK K
          try simp only [Act.put, List.setIfInBounds_toArray, List.set_cons_zero, List.set_cons_succ]
          refine wpAnyH_take (i := 9) (oi := ?_) (v := ?_) ?_ (by kernel_rfl) (by kernel_rfl) (by kernel_rfl) ?_ ?_ (by assumption) ?_
          rotate_left 2
          · simp only [List.getElem?_toArray, List.getElem?_cons_succ, List.getElem?_cons_zero]; rfl
          · exact fun _ _ _ h => h
          · first
              | (refine Or.inr ⟨?_, ?_⟩ <;> rfl)
              | (refine Or.inl ⟨?_, ?_⟩; · rfl
                 intro w hSw; (try dsimp only at hSw); go_simp; (try with_reducible rfl); done)
          try simp only [Act.put, List.setIfInBounds_toArray, List.set_cons_zero, List.set_cons_succ]
          refine wpAnyH_take (i := 10) (oi := ?_) (v := ?_) ?_ (by kernel_rfl) (by kernel_rfl) (by kernel_rfl) ?_ ?_ (by assumption) ?_
          rotate_left 2
          · simp only [List.getElem?_toArray, List.getElem?_cons_succ, List.getElem?_cons_zero]; rfl
          · exact fun _ _ _ h => h
          · first
              | (refine Or.inr ⟨?_, ?_⟩ <;> rfl)
              | (refine Or.inl ⟨?_, ?_⟩; · rfl
                 intro w hSw; (try dsimp only at hSw); go_simp; (try with_reducible rfl); done)
          try simp only [Act.put, List.setIfInBounds_toArray, List.set_cons_zero, List.set_cons_succ]
          refine wpAnyH_take (i := 11) (oi := ?_) (v := ?_) ?_ (by kernel_rfl) (by kernel_rfl) (by kernel_rfl) ?_ ?_ (by assumption) ?_
          rotate_left 2
          · simp only [List.getElem?_toArray, List.getElem?_cons_succ, List.getElem?_cons_zero]; rfl
          · exact fun _ _ _ h => h
          · first
              | (refine Or.inr ⟨?_, ?_⟩ <;> rfl)
              | (refine Or.inl ⟨?_, ?_⟩; · rfl
                 intro w hSw; (try dsimp only at hSw); go_simp; (try with_reducible rfl); done)
          try simp only [Act.put, List.setIfInBounds_toArray, List.set_cons_zero, List.set_cons_succ]
          refine wpAnyH_ready (rs := [13]) (by kernel_rfl) (by simp) ?_
          refine AllReadyH.cons (o := ?_) ?_ (fun K hK => ?_) AllReadyH.nil
          rotate_left 1
          · simp only [List.getElem?_toArray, List.getElem?_cons_succ, List.getElem?_cons_zero]; rfl
          go_simp
          have HB3 := Lib.hid ((HB2.out.setCell (p := ⟨w.heap.size, 0, none⟩) (Nat.le_refl _) (.slice none 0 0)).setCell (p := ⟨w.heap.size, 1, none⟩) (Nat.le_refl _) (.slice none 0 0))
          refine hK.out _ _ ?_ (fun hHeld => ?_)
          · try dsimp only
            exact HCC.out _ HB3.out
          clear hK K
          try simp only [Act.put, List.setIfInBounds_toArray, List.set_cons_zero, List.set_cons_succ]
          refine wpAnyH_take (i := 14) (oi := ?_) (v := ?_) ?_ (by kernel_rfl) (by kernel_rfl) (by kernel_rfl) ?_ ?_ (by assumption) ?_
          rotate_left 2
          · simp only [List.getElem?_toArray, List.getElem?_cons_succ, List.getElem?_cons_zero]; rfl
          · exact fun _ _ _ h => h
          · first
              | (refine Or.inr ⟨?_, ?_⟩ <;> rfl)
              | (refine Or.inl ⟨?_, ?_⟩; · rfl
                 intro w hSw; (try dsimp only at hSw); go_simp; (try with_reducible rfl); done)
          try simp only [Act.put, List.setIfInBounds_toArray, List.set_cons_zero, List.set_cons_succ]
          refine wpAnyH_done (by kernel_rfl) ?_ _
          clear hxc hxf hxl
          go_wp2_with fail
          go_ret
          exact ⟨by rw [HOT.out]; rfl, own, by rw [HST.out]; exact HS.out.keep (Fr.of_below HB3.out _), Fr.of_below HB3.out own, fun _ hq => .inl hq⟩
        · exact AllReadyH.nil
    · refine AllReadyH.cons (o := ?_) ?_ (fun K hK => ?_) ?_
      rotate_left 1
      · simp only [List.getElem?_toArray, List.getElem?_cons_succ, List.getElem?_cons_zero]; rfl
      · go_simp
        skip
        refine hK.out _ _ ?_ (fun hHeld => ?_)
        · try dsimp only
          exact HCC.out _ HBA.out
        clear hK K
        try simp only [Act.put, List.setIfInBounds_toArray, List.set_cons_zero, List.set_cons_succ]
        refine wpAnyH_ready (rs := [3]) (by kernel_rfl) (by simp) ?_
        refine AllReadyH.cons (o := ?_) ?_ (fun K hK => ?_) AllReadyH.nil
        rotate_left 1
        · simp only [List.getElem?_toArray, List.getElem?_cons_succ, List.getElem?_cons_zero]; rfl
        go_simp
        go_at_call 120
        go_must (refine Calls.mono (numberOf_any l1 _) ?_)
        rintro e w' ⟨rfl, rfl⟩
        refine hK.out _ _ ?_ (fun hHeld => ?_)
        · try dsimp only
          exact HCC.out _ HBA.out
        clear hK K
        try simp only [Act.put, List.setIfInBounds_toArray, List.set_cons_zero, List.set_cons_succ]
        refine wpAnyH_ready (rs := [7]) (by kernel_rfl) (by simp) ?_
        refine AllReadyH.cons (o := ?_) ?_ (fun K hK => ?_) AllReadyH.nil
        rotate_left 1
        · simp only [List.getElem?_toArray, List.getElem?_cons_succ, List.getElem?_cons_zero]; rfl
        go_simp
        go_at_call 120
        go_must (refine Calls.mono (numberOf_any l2 _) ?_)
        rintro e w' ⟨rfl, rfl⟩
        refine hK.out _ _ ?_ (fun hHeld => ?_)
        · try dsimp only
          exact HCC.out _ HBA.out
        clear hK K
        try simp only [Act.put, List.setIfInBounds_toArray, List.set_cons_zero, List.set_cons_succ]
        have HXA : Hid (Bx (w.drew.alloc (.cells #[.slice none 0 0, .slice none 0 0] 31)) w.heap.size 31 #[.slice none 0 0, .slice none 0 0]) := Bx.newAt rfl
        refine wpAnyH_ready (rs := [8]) (by kernel_rfl) (by simp) ?_
        refine AllReadyH.cons (o := ?_) ?_ (fun K hK => ?_) AllReadyH.nil
        rotate_left 1
        · simp only [List.getElem?_toArray, List.getElem?_cons_succ, List.getElem?_cons_zero]; rfl
        go_simp
        go_at_call 16
        go_must (refine Calls.mono (lineNew_any (nmF l1) (nmF l2) _ (by omega)) ?_)
        rintro e w2 ⟨hb2, h2⟩
        rcases h2 with ⟨_, rfl⟩ | ⟨_, _, h, _⟩
        rotate_left
        · rw [HO.out] at h; cases h
        have HB2 : Hid (Below w.heap.size w w2) := HBA.out.trans (hb2.mono HBA.out.size)
        unfold nilLn
        have HX2 := Lib.hid (HXA.out.below hb2 HXA.out.lt)
        have hxc := HX2.out.cell
        have hxf := HX2.out.free
        have hxl := HX2.out.lt
        refine hK.out _ _ ?_ (fun hHeld => ?_)
        · try dsimp only
          exact HCC.out _ HB2.out
        clear hK K
        try simp only [Act.put, List.setIfInBounds_toArray, List.set_cons_zero, List.set_cons_succ]
        refine wpAnyH_take (i := 9) (oi := ?_) (v := ?_) ?_ (by kernel_rfl) (by kernel_rfl) (by kernel_rfl) ?_ ?_ (by assumption) ?_
        rotate_left 2
        · simp only [List.getElem?_toArray, List.getElem?_cons_succ, List.getElem?_cons_zero]; rfl
        · exact fun _ _ _ h => h
        · first
            | (refine Or.inr ⟨?_, ?_⟩ <;> rfl)
            | (refine Or.inl ⟨?_, ?_⟩; · rfl
               intro w hSw; (try dsimp only at hSw); go_simp; (try with_reducible rfl); done)
        try simp only [Act.put, List.setIfInBounds_toArray, List.set_cons_zero, List.set_cons_succ]
        refine wpAnyH_take (i := 10) (oi := ?_) (v := ?_) ?_ (by kernel_rfl) (by kernel_rfl) (by kernel_rfl) ?_ ?_ (by assumption) ?_
        rotate_left 2
        · simp only [List.getElem?_toArray, List.getElem?_cons_succ, List.getElem?_cons_zero]; rfl
        · exact fun _ _ _ h => h
        · first
            | (refine Or.inr ⟨?_, ?_⟩ <;> rfl)
            | (refine Or.inl ⟨?_, ?_⟩; · rfl
               intro w hSw; (try dsimp only at hSw); go_simp; (try with_reducible rfl); done)
        try simp only [Act.put, List.setIfInBounds_toArray, List.set_cons_zero, List.set_cons_succ]
        refine wpAnyH_take (i := 11) (oi := ?_) (v := ?_) ?_ (by kernel_rfl) (by kernel_rfl) (by kernel_rfl) ?_ ?_ (by assumption) ?_
        rotate_left 2
        · simp only [List.getElem?_toArray, List.getElem?_cons_succ, List.getElem?_cons_zero]; rfl
        · exact fun _ _ _ h => h
        · first
            | (refine Or.inr ⟨?_, ?_⟩ <;> rfl)
            | (refine Or.inl ⟨?_, ?_⟩; · rfl
               intro w hSw; (try dsimp only at hSw); go_simp; (try with_reducible rfl); done)
        try simp only [Act.put, List.setIfInBounds_toArray, List.set_cons_zero, List.set_cons_succ]
        refine wpAnyH_ready (rs := [13]) (by kernel_rfl) (by simp) ?_
        refine AllReadyH.cons (o := ?_) ?_ (fun K hK => ?_) AllReadyH.nil
        rotate_left 1
        · simp only [List.getElem?_toArray, List.getElem?_cons_succ, List.getElem?_cons_zero]; rfl
        go_simp
        have HB3 := Lib.hid ((HB2.out.setCell (p := ⟨w.heap.size, 0, none⟩) (Nat.le_refl _) (.slice none 0 0)).setCell (p := ⟨w.heap.size, 1, none⟩) (Nat.le_refl _) (.slice none 0 0))
        refine hK.out _ _ ?_ (fun hHeld => ?_)
        · try dsimp only
          exact HCC.out _ HB3.out
        clear hK K
        try simp only [Act.put, List.setIfInBounds_toArray, List.set_cons_zero, List.set_cons_succ]
        refine wpAnyH_take (i := 14) (oi := ?_) (v := ?_) ?_ (by kernel_rfl) (by kernel_rfl) (by kernel_rfl) ?_ ?_ (by assumption) ?_
        rotate_left 2
        · simp only [List.getElem?_toArray, List.getElem?_cons_succ, List.getElem?_cons_zero]; rfl
        · exact fun _ _ _ h => h
        · first
            | (refine Or.inr ⟨?_, ?_⟩ <;> rfl)
            | (refine Or.inl ⟨?_, ?_⟩; · rfl
               intro w hSw; (try dsimp only at hSw); go_simp; (try with_reducible rfl); done)
        try simp only [Act.put, List.setIfInBounds_toArray, List.set_cons_zero, List.set_cons_succ]
        refine wpAnyH_done (by kernel_rfl) ?_ _
        clear hxc hxf hxl
        go_wp2_with fail
        go_ret
        exact ⟨by rw [HOT.out]; rfl, own, by rw [HST.out]; exact HS.out.keep (Fr.of_below HB3.out _), Fr.of_below HB3.out own, fun _ hq => .inl hq⟩
      · exact AllReadyH.nil
  | some y =>
    rw [ho] at HST HOT
    have HO := Lib.hid ho
    clear ho
    go_enter Tryz.func96, Tryz.ntmps96
    go_wp2_with fail
    refine wp_region_held_drew (S := fun W => W.cell? ⟨bw, 1, none⟩ = some (.string l1) ∧ W.cell? ⟨bw, 2, none⟩ = some (.string l2)) (by kernel_rfl) (HCC.out _ HBd.out) (fun hHeld => ?_)
    have HBA : Hid (Below w.heap.size w (w.drew.alloc (.cells #[.slice none 0 0, .slice none 0 0] 31))) := HBd.out.alloc HBd.out.size _
    refine wpAnyH_take (i := 0) (oi := ?_) (v := ?_) ?_ (by kernel_rfl) (by kernel_rfl) (by kernel_rfl) ?_ ?_ (by assumption) ?_
    rotate_left 2
    · simp only [List.getElem?_toArray, List.getElem?_cons_succ, List.getElem?_cons_zero]; rfl
    · exact fun _ _ _ h => h
    · first
        | (refine Or.inr ⟨?_, ?_⟩ <;> rfl)
        | (refine Or.inl ⟨?_, ?_⟩; · rfl
           intro w hSw; (try dsimp only at hSw); go_simp; (try with_reducible rfl); done)
    try simp only [Act.put, List.setIfInBounds_toArray, List.set_cons_zero, List.set_cons_succ]
    refine wpAnyH_take (i := 1) (oi := ?_) (v := ?_) ?_ (by kernel_rfl) (by kernel_rfl) (by kernel_rfl) ?_ ?_ (by assumption) ?_
    rotate_left 2
    · simp only [List.getElem?_toArray, List.getElem?_cons_succ, List.getElem?_cons_zero]; rfl
    · exact fun _ _ _ h => h
    · first
        | (refine Or.inr ⟨?_, ?_⟩ <;> rfl)
        | (refine Or.inl ⟨?_, ?_⟩; · rfl
           intro w hSw; (try dsimp only at hSw); go_simp; (try with_reducible rfl); done)
    try simp only [Act.put, List.setIfInBounds_toArray, List.set_cons_zero, List.set_cons_succ]
    refine wpAnyH_take (i := 2) (oi := ?_) (v := ?_) ?_ (by kernel_rfl) (by kernel_rfl) (by kernel_rfl) ?_ ?_ (by assumption) ?_
    rotate_left 2
    · simp only [List.getElem?_toArray, List.getElem?_cons_succ, List.getElem?_cons_zero]; rfl
    · exact fun _ _ _ h => h
    · first
        | (refine Or.inr ⟨?_, ?_⟩ <;> rfl)
        | (refine Or.inl ⟨?_, ?_⟩; · rfl
           intro w hSw; (try dsimp only at hSw); go_simp; (try with_reducible rfl); done)
    try simp only [Act.put, List.setIfInBounds_toArray, List.set_cons_zero, List.set_cons_succ]
    refine wpAnyH_take (i := 4) (oi := ?_) (v := ?_) ?_ (by kernel_rfl) (by kernel_rfl) (by kernel_rfl) ?_ ?_ (by assumption) ?_
    rotate_left 2
    · simp only [List.getElem?_toArray, List.getElem?_cons_succ, List.getElem?_cons_zero]; rfl
    · exact fun _ _ _ h => h
    · first
        | (refine Or.inr ⟨?_, ?_⟩ <;> rfl)
        | (refine Or.inl ⟨?_, ?_⟩; · rfl
           intro w hSw; (try dsimp only at hSw); go_simp; (try with_reducible rfl); done)
    try simp only [Act.put, List.setIfInBounds_toArray, List.set_cons_zero, List.set_cons_succ]
    refine wpAnyH_take (i := 5) (oi := ?_) (v := ?_) ?_ (by kernel_rfl) (by kernel_rfl) (by kernel_rfl) ?_ ?_ (by assumption) ?_
    rotate_left 2
    · simp only [List.getElem?_toArray, List.getElem?_cons_succ, List.getElem?_cons_zero]; rfl
    · exact fun _ _ _ h => h
    · first
        | (refine Or.inr ⟨?_, ?_⟩ <;> rfl)
        | (refine Or.inl ⟨?_, ?_⟩; · rfl
           intro w hSw; (try dsimp only at hSw); go_simp; (try with_reducible rfl); done)
    try simp only [Act.put, List.setIfInBounds_toArray, List.set_cons_zero, List.set_cons_succ]
    refine wpAnyH_take (i := 6) (oi := ?_) (v := ?_) ?_ (by kernel_rfl) (by kernel_rfl) (by kernel_rfl) ?_ ?_ (by assumption) ?_
    rotate_left 2
    · simp only [List.getElem?_toArray, List.getElem?_cons_succ, List.getElem?_cons_zero]; rfl
    · exact fun _ _ _ h => h
    · first
        | (refine Or.inr ⟨?_, ?_⟩ <;> rfl)
        | (refine Or.inl ⟨?_, ?_⟩; · rfl
           intro w hSw; (try dsimp only at hSw); go_simp; (try with_reducible rfl); done)
    try simp only [Act.put, List.setIfInBounds_toArray, List.set_cons_zero, List.set_cons_succ]
    refine wpAnyH_ready (rs := [3, 12]) (by kernel_rfl) (by simp) ?_
    refine AllReadyH.cons (o := ?_) ?_ (fun K hK => ?_) ?_
    rotate_left 1
    · simp only [List.getElem?_toArray, List.getElem?_cons_succ, List.getElem?_cons_zero]; rfl
    · go_simp
      go_at_call 120
      go_must (refine Calls.mono (numberOf_any l1 _) ?_)
      rintro e w' ⟨rfl, rfl⟩
      refine hK.out _ _ ?_ (fun hHeld => ?_)
      · try dsimp only
        exact HCC.out _ HBd.out
      clear hK K
      try simp only [Act.put, List.setIfInBounds_toArray, List.set_cons_zero, List.set_cons_succ]
      refine wpAnyH_ready (rs := [7, 12]) (by kernel_rfl) (by simp) ?_
      refine AllReadyH.cons (o := ?_) ?_ (fun K hK => ?_) ?_
      rotate_left 1
      · simp only [List.getElem?_toArray, List.getElem?_cons_succ, List.getElem?_cons_zero]; rfl
      · go_simp
        go_at_call 120
        go_must (refine Calls.mono (numberOf_any l2 _) ?_)
        rintro e w' ⟨rfl, rfl⟩
        refine hK.out _ _ ?_ (fun hHeld => ?_)
        · try dsimp only
          exact HCC.out _ HBd.out
        clear hK K
        try simp only [Act.put, List.setIfInBounds_toArray, List.set_cons_zero, List.set_cons_succ]
        refine wpAnyH_ready (rs := [8, 12]) (by kernel_rfl) (by simp) ?_
        refine AllReadyH.cons (o := ?_) ?_ (fun K hK => ?_) ?_
        rotate_left 1
        · simp only [List.getElem?_toArray, List.getElem?_cons_succ, List.getElem?_cons_zero]; rfl
        · go_simp
          go_at_call 16
          go_must (refine Calls.mono (lineNew_any (nmF l1) (nmF l2) _ (by omega)) ?_)
          rintro e w2 h2
          obtain ⟨v, rfl, hl2, hb2⟩ := h2.some HO.out
          have HL0 := Lib.hid hl2
          have HL2 := Lib.hid (hl2.mono (D := w.heap.size) (by have := HBd.out.size; exact this))
          obtain ⟨g1, c1, g2, c2, rfl, _⟩ := hl2
          have HB2 : Hid (Below w.heap.size w w2) := HBd.out.trans (hb2.mono HBd.out.size)
          refine hK.out _ _ ?_ (fun hHeld => ?_)
          · try dsimp only
            exact HCC.out _ HB2.out
          clear hK K
          try simp only [Act.put, List.setIfInBounds_toArray, List.set_cons_zero, List.set_cons_succ]
          refine wpAnyH_take (i := 9) (oi := ?_) (v := ?_) ?_ (by kernel_rfl) (by kernel_rfl) (by kernel_rfl) ?_ ?_ (by assumption) ?_
          rotate_left 2
          · simp only [List.getElem?_toArray, List.getElem?_cons_succ, List.getElem?_cons_zero]; rfl
          · exact fun _ _ _ h => h
          · first
              | (refine Or.inr ⟨?_, ?_⟩ <;> rfl)
              | (refine Or.inl ⟨?_, ?_⟩; · rfl
                 intro w hSw; (try dsimp only at hSw); go_simp; (try with_reducible rfl); done)
          try simp only [Act.put, List.setIfInBounds_toArray, List.set_cons_zero, List.set_cons_succ]
          refine wpAnyH_take (i := 10) (oi := ?_) (v := ?_) ?_ (by kernel_rfl) (by kernel_rfl) (by kernel_rfl) ?_ ?_ (by assumption) ?_
          rotate_left 2
          · simp only [List.getElem?_toArray, List.getElem?_cons_succ, List.getElem?_cons_zero]; rfl
          · exact fun _ _ _ h => h
          · first
              | (refine Or.inr ⟨?_, ?_⟩ <;> rfl)
              | (refine Or.inl ⟨?_, ?_⟩; · rfl
                 intro w hSw; (try dsimp only at hSw); go_simp; (try with_reducible rfl); done)
          try simp only [Act.put, List.setIfInBounds_toArray, List.set_cons_zero, List.set_cons_succ]
          refine wpAnyH_take (i := 11) (oi := ?_) (v := ?_) ?_ (by kernel_rfl) (by kernel_rfl) (by kernel_rfl) ?_ ?_ (by assumption) ?_
          rotate_left 2
          · simp only [List.getElem?_toArray, List.getElem?_cons_succ, List.getElem?_cons_zero]; rfl
          · exact fun _ _ _ h => h
          · first
              | (refine Or.inr ⟨?_, ?_⟩ <;> rfl)
              | (refine Or.inl ⟨?_, ?_⟩; · rfl
                 intro w hSw; (try dsimp only at hSw); go_simp; (try with_reducible rfl); done)
          try simp only [Act.put, List.setIfInBounds_toArray, List.set_cons_zero, List.set_cons_succ]
          refine wpAnyH_ready (rs := [12]) (by kernel_rfl) (by simp) ?_
          refine AllReadyH.cons (o := ?_) ?_ (fun K hK => ?_) AllReadyH.nil
          rotate_left 1
          · simp only [List.getElem?_toArray, List.getElem?_cons_succ, List.getElem?_cons_zero]; rfl
          go_simp
          skip
          refine hK.out _ _ ?_ (fun hHeld => ?_)
          · try dsimp only
            exact HCC.out _ (HB2.out.alloc HB2.out.size _)
          clear hK K
          try simp only [Act.put, List.setIfInBounds_toArray, List.set_cons_zero, List.set_cons_succ]
          refine wpAnyH_ready (rs := [13]) (by kernel_rfl) (by simp) ?_
          refine AllReadyH.cons (o := ?_) ?_ (fun K hK => ?_) AllReadyH.nil
          rotate_left 1
          · simp only [List.getElem?_toArray, List.getElem?_cons_succ, List.getElem?_cons_zero]; rfl
          go_simp
          skip
          refine hK.out _ _ ?_ (fun hHeld => ?_)
          · try dsimp only
            exact HCC.out _ (HB2.out.alloc HB2.out.size _)
          clear hK K
          try simp only [Act.put, List.setIfInBounds_toArray, List.set_cons_zero, List.set_cons_succ]
          refine wpAnyH_take (i := 14) (oi := ?_) (v := ?_) ?_ (by kernel_rfl) (by kernel_rfl) (by kernel_rfl) ?_ ?_ (by assumption) ?_
          rotate_left 2
          · simp only [List.getElem?_toArray, List.getElem?_cons_succ, List.getElem?_cons_zero]; rfl
          · exact fun _ _ _ h => h
          · first
              | (refine Or.inr ⟨?_, ?_⟩ <;> rfl)
              | (refine Or.inl ⟨?_, ?_⟩; · rfl
                 intro w hSw; (try dsimp only at hSw); go_simp; (try with_reducible rfl); done)
          try simp only [Act.put, List.setIfInBounds_toArray, List.set_cons_zero, List.set_cons_succ]
          refine wpAnyH_done (by kernel_rfl) ?_ _
          have HB3 := Lib.hid (HB2.out.alloc HB2.out.size (.cells #[.slice (some ⟨g1, 0, none⟩) y.n c1, .slice (some ⟨g2, 0, none⟩) y.m c2] 31))
          have HX3 : Hid (Bx (w2.alloc (.cells #[.slice (some ⟨g1, 0, none⟩) y.n c1, .slice (some ⟨g2, 0, none⟩) y.m c2] 31)) w2.heap.size 31 #[.slice (some ⟨g1, 0, none⟩) y.n c1, .slice (some ⟨g2, 0, none⟩) y.m c2]) := Bx.new _ _ _
          have HL3 := Lib.hid (HL2.out.below (below_all w2 (.cells #[.slice (some ⟨g1, 0, none⟩) y.n c1, .slice (some ⟨g2, 0, none⟩) y.m c2] 31)) (Nat.le_refl _))
          have hxc := HX3.out.cell
          generalize w2.alloc (.cells #[.slice (some ⟨g1, 0, none⟩) y.n c1, .slice (some ⟨g2, 0, none⟩) y.m c2] 31) = w3 at *
          clear hHeld
          obtain ⟨p1, d1, p2, d2, vm, vt, hs3, hown⟩ := HS.out.keep (Fr.of_below HB3.out (fun q => ¬ own q))
          have hsb := hs3.box.lt
          have hsf := hs3.box.free
          have hsc := hs3.box.cell
          clear hs3 hown
          go_wp2_with fail
          go_ret
          exact ⟨by rw [HOT.out]; rfl, by rw [HST.out]; exact ses_line HB3.out (HS.out.keep (Fr.of_below HB3.out _)) HL3.out HSL.out hz HSO.out⟩
        · refine AllReadyH.cons (o := ?_) ?_ (fun K hK => ?_) ?_
          rotate_left 1
          · simp only [List.getElem?_toArray, List.getElem?_cons_succ, List.getElem?_cons_zero]; rfl
          · go_simp
            skip
            refine hK.out _ _ ?_ (fun hHeld => ?_)
            · try dsimp only
              exact HCC.out _ HBA.out
            clear hK K
            try simp only [Act.put, List.setIfInBounds_toArray, List.set_cons_zero, List.set_cons_succ]
            have HXA : Hid (Bx (w.drew.alloc (.cells #[.slice none 0 0, .slice none 0 0] 31)) w.heap.size 31 #[.slice none 0 0, .slice none 0 0]) := Bx.newAt rfl
            refine wpAnyH_ready (rs := [8]) (by kernel_rfl) (by simp) ?_
            refine AllReadyH.cons (o := ?_) ?_ (fun K hK => ?_) AllReadyH.nil
            rotate_left 1
            · simp only [List.getElem?_toArray, List.getElem?_cons_succ, List.getElem?_cons_zero]; rfl
            go_simp
            go_at_call 16
            go_must (refine Calls.mono (lineNew_any (nmF l1) (nmF l2) _ (by omega)) ?_)
            rintro e w2 h2
            obtain ⟨v, rfl, hl2, hb2⟩ := h2.some HO.out
            have HL0 := Lib.hid hl2
            have HL2 := Lib.hid (hl2.mono (D := w.heap.size) (by have := HBA.out.size; exact this))
            obtain ⟨g1, c1, g2, c2, rfl, _⟩ := hl2
            have HB2 : Hid (Below w.heap.size w w2) := HBA.out.trans (hb2.mono HBA.out.size)
            have HX2 := Lib.hid (HXA.out.below hb2 HXA.out.lt)
            have hxc := HX2.out.cell
            have hxf := HX2.out.free
            have hxl := HX2.out.lt
            refine hK.out _ _ ?_ (fun hHeld => ?_)
            · try dsimp only
              exact HCC.out _ HB2.out
            clear hK K
            try simp only [Act.put, List.setIfInBounds_toArray, List.set_cons_zero, List.set_cons_succ]
            refine wpAnyH_take (i := 9) (oi := ?_) (v := ?_) ?_ (by kernel_rfl) (by kernel_rfl) (by kernel_rfl) ?_ ?_ (by assumption) ?_
            rotate_left 2
            · simp only [List.getElem?_toArray, List.getElem?_cons_succ, List.getElem?_cons_zero]; rfl
            · exact fun _ _ _ h => h
            · first
                | (refine Or.inr ⟨?_, ?_⟩ <;> rfl)
                | (refine Or.inl ⟨?_, ?_⟩; · rfl
                   intro w hSw; (try dsimp only at hSw); go_simp; (try with_reducible rfl); done)
            try simp only [Act.put, List.setIfInBounds_toArray, List.set_cons_zero, List.set_cons_succ]
            refine wpAnyH_take (i := 10) (oi := ?_) (v := ?_) ?_ (by kernel_rfl) (by kernel_rfl) (by kernel_rfl) ?_ ?_ (by assumption) ?_
            rotate_left 2
            · simp only [List.getElem?_toArray, List.getElem?_cons_succ, List.getElem?_cons_zero]; rfl
            · exact fun _ _ _ h => h
            · first
                | (refine Or.inr ⟨?_, ?_⟩ <;> rfl)
                | (refine Or.inl ⟨?_, ?_⟩; · rfl
                   intro w hSw; (try dsimp only at hSw); go_simp; (try with_reducible rfl); done)
            try simp only [Act.put, List.setIfInBounds_toArray, List.set_cons_zero, List.set_cons_succ]
            refine wpAnyH_take (i := 11) (oi := ?_) (v := ?_) ?_ (by kernel_rfl) (by kernel_rfl) (by kernel_rfl) ?_ ?_ (by assumption) ?_
            rotate_left 2
            · simp only [List.getElem?_toArray, List.getElem?_cons_succ, List.getElem?_cons_zero]; rfl
            · exact fun _ _ _ h => h
            · first
                | (refine Or.inr ⟨?_, ?_⟩ <;> rfl)
                | (refine Or.inl ⟨?_, ?_⟩; · rfl
                   intro w hSw; (try dsimp only at hSw); go_simp; (try with_reducible rfl); done)
            try simp only [Act.put, List.setIfInBounds_toArray, List.set_cons_zero, List.set_cons_succ]
            refine wpAnyH_ready (rs := [13]) (by kernel_rfl) (by simp) ?_
            refine AllReadyH.cons (o := ?_) ?_ (fun K hK => ?_) AllReadyH.nil
            rotate_left 1
            · simp only [List.getElem?_toArray, List.getElem?_cons_succ, List.getElem?_cons_zero]; rfl
            go_simp
            have HB3 := Lib.hid ((HB2.out.setCell (p := ⟨w.heap.size, 0, none⟩) (Nat.le_refl _) (.slice (some ⟨g1, 0, none⟩) y.n c1)).setCell (p := ⟨w.heap.size, 1, none⟩) (Nat.le_refl _) (.slice (some ⟨g2, 0, none⟩) y.m c2))
            refine hK.out _ _ ?_ (fun hHeld => ?_)
            · try dsimp only
              exact HCC.out _ HB3.out
            clear hK K
            try simp only [Act.put, List.setIfInBounds_toArray, List.set_cons_zero, List.set_cons_succ]
            refine wpAnyH_take (i := 14) (oi := ?_) (v := ?_) ?_ (by kernel_rfl) (by kernel_rfl) (by kernel_rfl) ?_ ?_ (by assumption) ?_
            rotate_left 2
            · simp only [List.getElem?_toArray, List.getElem?_cons_succ, List.getElem?_cons_zero]; rfl
            · exact fun _ _ _ h => h
            · first
                | (refine Or.inr ⟨?_, ?_⟩ <;> rfl)
                | (refine Or.inl ⟨?_, ?_⟩; · rfl
                   intro w hSw; (try dsimp only at hSw); go_simp; (try with_reducible rfl); done)
            try simp only [Act.put, List.setIfInBounds_toArray, List.set_cons_zero, List.set_cons_succ]
            refine wpAnyH_done (by kernel_rfl) ?_ _
            clear hxc hxf hxl
            have HX3 : Hid (Bx ((w2.setCell ⟨w.heap.size, 0, none⟩ (.slice (some ⟨g1, 0, none⟩) y.n c1)).setCell ⟨w.heap.size, 1, none⟩ (.slice (some ⟨g2, 0, none⟩) y.m c2)) w.heap.size 31 #[.slice (some ⟨g1, 0, none⟩) y.n c1, .slice (some ⟨g2, 0, none⟩) y.m c2]) := by
              have hb := (HX2.out.set 0 (.slice (some ⟨g1, 0, none⟩) y.n c1)).set 1 (.slice (some ⟨g2, 0, none⟩) y.m c2)
              show Bx _ _ _ _
              simpa using hb
            have hLO : LnO w.heap.size ((w2.setCell ⟨w.heap.size, 0, none⟩ (.slice (some ⟨g1, 0, none⟩) y.n c1)).setCell ⟨w.heap.size, 1, none⟩ (.slice (some ⟨g2, 0, none⟩) y.m c2)) (.agg #[.slice (some ⟨g1, 0, none⟩) y.n c1, .slice (some ⟨g2, 0, none⟩) y.m c2]) y := by
              obtain ⟨q1, e1, q2, e2, e, h1, h2, h3, h4, h5⟩ := HL0.out
              cases e
              have h4' : w.heap.size + 1 ≤ g1 := by simpa using h4
              have h5' : w.heap.size + 1 ≤ g2 := by simpa using h5
              exact ⟨_, _, _, _, rfl, (h1.setOther (by dsimp only; omega) _).setOther (by dsimp only; omega) _, (h2.setOther (by dsimp only; omega) _).setOther (by dsimp only; omega) _, h3, by omega, by omega⟩
            have HL3 := Lib.hid hLO
            clear hLO
            have hxc := HX3.out.cell
            generalize (w2.setCell ⟨w.heap.size, 0, none⟩ (.slice (some ⟨g1, 0, none⟩) y.n c1)).setCell ⟨w.heap.size, 1, none⟩ (.slice (some ⟨g2, 0, none⟩) y.m c2) = w3 at *
            clear hHeld
            obtain ⟨p1, d1, p2, d2, vm, vt, hs3, hown⟩ := HS.out.keep (Fr.of_below HB3.out (fun q => ¬ own q))
            have hsb := hs3.box.lt
            have hsf := hs3.box.free
            have hsc := hs3.box.cell
            clear hs3 hown
            go_wp2_with fail
            go_ret
            exact ⟨by rw [HOT.out]; rfl, by rw [HST.out]; exact ses_line HB3.out (HS.out.keep (Fr.of_below HB3.out _)) HL3.out HSL.out hz HSO.out⟩
          · exact AllReadyH.nil
      · refine AllReadyH.cons (o := ?_) ?_ (fun K hK => ?_) ?_
        rotate_left 1
        · simp only [List.getElem?_toArray, List.getElem?_cons_succ, List.getElem?_cons_zero]; rfl
        · go_simp
          skip
          refine hK.out _ _ ?_ (fun hHeld => ?_)
          · try dsimp only
            exact HCC.out _ HBA.out
          clear hK K
          try simp only [Act.put, List.setIfInBounds_toArray, List.set_cons_zero, List.set_cons_succ]
          refine wpAnyH_ready (rs := [7]) (by kernel_rfl) (by simp) ?_
          refine AllReadyH.cons (o := ?_) ?_ (fun K hK => ?_) AllReadyH.nil
          rotate_left 1
          · simp only [List.getElem?_toArray, List.getElem?_cons_succ, List.getElem?_cons_zero]; rfl
          go_simp
          go_at_call 120
          go_must (refine Calls.mono (numberOf_any l2 _) ?_)
          rintro e w' ⟨rfl, rfl⟩
          refine hK.out _ _ ?_ (fun hHeld => ?_)
          · try dsimp only
            exact HCC.out _ HBA.out
          clear hK K
          try simp only [Act.put, List.setIfInBounds_toArray, List.set_cons_zero, List.set_cons_succ]
          have HXA : Hid (Bx (w.drew.alloc (.cells #[.slice none 0 0, .slice none 0 0] 31)) w.heap.size 31 #[.slice none 0 0, .slice none 0 0]) := Bx.newAt rfl
          refine wpAnyH_ready (rs := [8]) (by kernel_rfl) (by simp) ?_
          refine AllReadyH.cons (o := ?_) ?_ (fun K hK => ?_) AllReadyH.nil
          rotate_left 1
          · simp only [List.getElem?_toArray, List.getElem?_cons_succ, List.getElem?_cons_zero]; rfl
          go_simp
          go_at_call 16
          go_must (refine Calls.mono (lineNew_any (nmF l1) (nmF l2) _ (by omega)) ?_)
          rintro e w2 h2
          obtain ⟨v, rfl, hl2, hb2⟩ := h2.some HO.out
          have HL0 := Lib.hid hl2
          have HL2 := Lib.hid (hl2.mono (D := w.heap.size) (by have := HBA.out.size; exact this))
          obtain ⟨g1, c1, g2, c2, rfl, _⟩ := hl2
          have HB2 : Hid (Below w.heap.size w w2) := HBA.out.trans (hb2.mono HBA.out.size)
          have HX2 := Lib.hid (HXA.out.below hb2 HXA.out.lt)
          have hxc := HX2.out.cell
          have hxf := HX2.out.free
          have hxl := HX2.out.lt
          refine hK.out _ _ ?_ (fun hHeld => ?_)
          · try dsimp only
            exact HCC.out _ HB2.out
          clear hK K
          try simp only [Act.put, List.setIfInBounds_toArray, List.set_cons_zero, List.set_cons_succ]
          refine wpAnyH_take (i := 9) (oi := ?_) (v := ?_) ?_ (by kernel_rfl) (by kernel_rfl) (by kernel_rfl) ?_ ?_ (by assumption) ?_
          rotate_left 2
          · simp only [List.getElem?_toArray, List.getElem?_cons_succ, List.getElem?_cons_zero]; rfl
          · exact fun _ _ _ h => h
          · first
              | (refine Or.inr ⟨?_, ?_⟩ <;> rfl)
              | (refine Or.inl ⟨?_, ?_⟩; · rfl
                 intro w hSw; (try dsimp only at hSw); go_simp; (try with_reducible rfl); done)
          try simp only [Act.put, List.setIfInBounds_toArray, List.set_cons_zero, List.set_cons_succ]
          refine wpAnyH_take (i := 10) (oi := ?_) (v := ?_) ?_ (by kernel_rfl) (by kernel_rfl) (by kernel_rfl) ?_ ?_ (by assumption) ?_
          rotate_left 2
          · simp only [List.getElem?_toArray, List.getElem?_cons_succ, List.getElem?_cons_zero]; rfl
          · exact fun _ _ _ h => h
          · first
              | (refine Or.inr ⟨?_, ?_⟩ <;> rfl)
              | (refine Or.inl ⟨?_, ?_⟩; · rfl
                 intro w hSw; (try dsimp only at hSw); go_simp; (try with_reducible rfl); done)
          try simp only [Act.put, List.setIfInBounds_toArray, List.set_cons_zero, List.set_cons_succ]
          refine wpAnyH_take (i := 11) (oi := ?_) (v := ?_) ?_ (by kernel_rfl) (by kernel_rfl) (by kernel_rfl) ?_ ?_ (by assumption) ?_
          rotate_left 2
          · simp only [List.getElem?_toArray, List.getElem?_cons_succ, List.getElem?_cons_zero]; rfl
          · exact fun _ _ _ h => h
          · first
              | (refine Or.inr ⟨?_, ?_⟩ <;> rfl)
              | (refine Or.inl ⟨?_, ?_⟩; · rfl
                 intro w hSw; (try dsimp only at hSw); go_simp; (try with_reducible rfl); done)
          try simp only [Act.put, List.setIfInBounds_toArray, List.set_cons_zero, List.set_cons_succ]
          refine wpAnyH_ready (rs := [13]) (by kernel_rfl) (by simp) ?_
          refine AllReadyH.cons (o := ?_) ?_ (fun K hK => ?_) AllReadyH.nil
          rotate_left 1
          · simp only [List.getElem?_toArray, List.getElem?_cons_succ, List.getElem?_cons_zero]; rfl
          go_simp
          have HB3 := Lib.hid ((HB2.out.setCell (p := ⟨w.heap.size, 0, none⟩) (Nat.le_refl _) (.slice (some ⟨g1, 0, none⟩) y.n c1)).setCell (p := ⟨w.heap.size, 1, none⟩) (Nat.le_refl _) (.slice (some ⟨g2, 0, none⟩) y.m c2))
          refine hK.out _ _ ?_ (fun hHeld => ?_)
          · try dsimp only
            exact HCC.out _ HB3.out
          clear hK K
          try simp only [Act.put, List.setIfInBounds_toArray, List.set_cons_zero, List.set_cons_succ]
          refine wpAnyH_take (i := 14) (oi := ?_) (v := ?_) ?_ (by kernel_rfl) (by kernel_rfl) (by kernel_rfl) ?_ ?_ (by assumption) ?_
          rotate_left 2
          · simp only [List.getElem?_toArray, List.getElem?_cons_succ, List.getElem?_cons_zero]; rfl
          · exact fun _ _ _ h => h
          · first
              | (refine Or.inr ⟨?_, ?_⟩ <;> rfl)
              | (refine Or.inl ⟨?_, ?_⟩; · rfl
                 intro w hSw; (try dsimp only at hSw); go_simp; (try with_reducible rfl); done)
          try simp only [Act.put, List.setIfInBounds_toArray, List.set_cons_zero, List.set_cons_succ]
          refine wpAnyH_done (by kernel_rfl) ?_ _
          clear hxc hxf hxl
          have HX3 : Hid (Bx ((w2.setCell ⟨w.heap.size, 0, none⟩ (.slice (some ⟨g1, 0, none⟩) y.n c1)).setCell ⟨w.heap.size, 1, none⟩ (.slice (some ⟨g2, 0, none⟩) y.m c2)) w.heap.size 31 #[.slice (some ⟨g1, 0, none⟩) y.n c1, .slice (some ⟨g2, 0, none⟩) y.m c2]) := by
            have hb := (HX2.out.set 0 (.slice (some ⟨g1, 0, none⟩) y.n c1)).set 1 (.slice (some ⟨g2, 0, none⟩) y.m c2)
            show Bx _ _ _ _
            simpa using hb
          have hLO : LnO w.heap.size ((w2.setCell ⟨w.heap.size, 0, none⟩ (.slice (some ⟨g1, 0, none⟩) y.n c1)).setCell ⟨w.heap.size, 1, none⟩ (.slice (some ⟨g2, 0, none⟩) y.m c2)) (.agg #[.slice (some ⟨g1, 0, none⟩) y.n c1, .slice (some ⟨g2, 0, none⟩) y.m c2]) y := by
            obtain ⟨q1, e1, q2, e2, e, h1, h2, h3, h4, h5⟩ := HL0.out
            cases e
            have h4' : w.heap.size + 1 ≤ g1 := by simpa using h4
            have h5' : w.heap.size + 1 ≤ g2 := by simpa using h5
            exact ⟨_, _, _, _, rfl, (h1.setOther (by dsimp only; omega) _).setOther (by dsimp only; omega) _, (h2.setOther (by dsimp only; omega) _).setOther (by dsimp only; omega) _, h3, by omega, by omega⟩
          have HL3 := Lib.hid hLO
          clear hLO
          have hxc := HX3.out.cell
          generalize (w2.setCell ⟨w.heap.size, 0, none⟩ (.slice (some ⟨g1, 0, none⟩) y.n c1)).setCell ⟨w.heap.size, 1, none⟩ (.slice (some ⟨g2, 0, none⟩) y.m c2) = w3 at *
          clear hHeld
          obtain ⟨p1, d1, p2, d2, vm, vt, hs3, hown⟩ := HS.out.keep (Fr.of_below HB3.out (fun q => ¬ own q))
          have hsb := hs3.box.lt
          have hsf := hs3.box.free
          have hsc := hs3.box.cell
          clear hs3 hown
          go_wp2_with fail
          go_ret
          exact ⟨by rw [HOT.out]; rfl, by rw [HST.out]; exact ses_line HB3.out (HS.out.keep (Fr.of_below HB3.out _)) HL3.out HSL.out hz HSO.out⟩
        · exact AllReadyH.nil
    · refine AllReadyH.cons (o := ?_) ?_ (fun K hK => ?_) ?_
      rotate_left 1
      · simp only [List.getElem?_toArray, List.getElem?_cons_succ, List.getElem?_cons_zero]; rfl
      · go_simp
        skip
        refine hK.out _ _ ?_ (fun hHeld => ?_)
        · try dsimp only
          exact HCC.out _ HBA.out
        clear hK K
        try simp only [Act.put, List.setIfInBounds_toArray, List.set_cons_zero, List.set_cons_succ]
        refine wpAnyH_ready (rs := [3]) (by kernel_rfl) (by simp) ?_
        refine AllReadyH.cons (o := ?_) ?_ (fun K hK => ?_) AllReadyH.nil
        rotate_left 1
        · simp only [List.getElem?_toArray, List.getElem?_cons_succ, List.getElem?_cons_zero]; rfl
        go_simp
        go_at_call 120
        go_must (refine Calls.mono (numberOf_any l1 _) ?_)
        rintro e w' ⟨rfl, rfl⟩
        refine hK.out _ _ ?_ (fun hHeld => ?_)
        · try dsimp only
          exact HCC.out _ HBA.out
        clear hK K
        try simp only [Act.put, List.setIfInBounds_toArray, List.set_cons_zero, List.set_cons_succ]
        refine wpAnyH_ready (rs := [7]) (by kernel_rfl) (by simp) ?_
        refine AllReadyH.cons (o := ?_) ?_ (fun K hK => ?_) AllReadyH.nil
        rotate_left 1
        · simp only [List.getElem?_toArray, List.getElem?_cons_succ, List.getElem?_cons_zero]; rfl
        go_simp
        go_at_call 120
        go_must (refine Calls.mono (numberOf_any l2 _) ?_)
        rintro e w' ⟨rfl, rfl⟩
        refine hK.out _ _ ?_ (fun hHeld => ?_)
        · try dsimp only
          exact HCC.out _ HBA.out
        clear hK K
        try simp only [Act.put, List.setIfInBounds_toArray, List.set_cons_zero, List.set_cons_succ]
        have HXA : Hid (Bx (w.drew.alloc (.cells #[.slice none 0 0, .slice none 0 0] 31)) w.heap.size 31 #[.slice none 0 0, .slice none 0 0]) := Bx.newAt rfl
        refine wpAnyH_ready (rs := [8]) (by kernel_rfl) (by simp) ?_
        refine AllReadyH.cons (o := ?_) ?_ (fun K hK => ?_) AllReadyH.nil
        rotate_left 1
        · simp only [List.getElem?_toArray, List.getElem?_cons_succ, List.getElem?_cons_zero]; rfl
        go_simp
        go_at_call 16
        go_must (refine Calls.mono (lineNew_any (nmF l1) (nmF l2) _ (by omega)) ?_)
        rintro e w2 h2
        obtain ⟨v, rfl, hl2, hb2⟩ := h2.some HO.out
        have HL0 := Lib.hid hl2
        have HL2 := Lib.hid (hl2.mono (D := w.heap.size) (by have := HBA.out.size; exact this))
        obtain ⟨g1, c1, g2, c2, rfl, _⟩ := hl2
        have HB2 : Hid (Below w.heap.size w w2) := HBA.out.trans (hb2.mono HBA.out.size)
        have HX2 := Lib.hid (HXA.out.below hb2 HXA.out.lt)
        have hxc := HX2.out.cell
        have hxf := HX2.out.free
        have hxl := HX2.out.lt
        refine hK.out _ _ ?_ (fun hHeld => ?_)
        · try dsimp only
          exact HCC.out _ HB2.out
        clear hK K
        try simp only [Act.put, List.setIfInBounds_toArray, List.set_cons_zero, List.set_cons_succ]
        refine wpAnyH_take (i := 9) (oi := ?_) (v := ?_) ?_ (by kernel_rfl) (by kernel_rfl) (by kernel_rfl) ?_ ?_ (by assumption) ?_
        rotate_left 2
        · simp only [List.getElem?_toArray, List.getElem?_cons_succ, List.getElem?_cons_zero]; rfl
        · exact fun _ _ _ h => h
        · first
            | (refine Or.inr ⟨?_, ?_⟩ <;> rfl)
            | (refine Or.inl ⟨?_, ?_⟩; · rfl
               intro w hSw; (try dsimp only at hSw); go_simp; (try with_reducible rfl); done)
        try simp only [Act.put, List.setIfInBounds_toArray, List.set_cons_zero, List.set_cons_succ]
        refine wpAnyH_take (i := 10) (oi := ?_) (v := ?_) ?_ (by kernel_rfl) (by kernel_rfl) (by kernel_rfl) ?_ ?_ (by assumption) ?_
        rotate_left 2
        · simp only [List.getElem?_toArray, List.getElem?_cons_succ, List.getElem?_cons_zero]; rfl
        · exact fun _ _ _ h => h
        · first
            | (refine Or.inr ⟨?_, ?_⟩ <;> rfl)
            | (refine Or.inl ⟨?_, ?_⟩; · rfl
               intro w hSw; (try dsimp only at hSw); go_simp; (try with_reducible rfl); done)
        try simp only [Act.put, List.setIfInBounds_toArray, List.set_cons_zero, List.set_cons_succ]
        refine wpAnyH_take (i := 11) (oi := ?_) (v := ?_) ?_ (by kernel_rfl) (by kernel_rfl) (by kernel_rfl) ?_ ?_ (by assumption) ?_
        rotate_left 2
        · simp only [List.getElem?_toArray, List.getElem?_cons_succ, List.getElem?_cons_zero]; rfl
        · exact fun _ _ _ h => h
        · first
            | (refine Or.inr ⟨?_, ?_⟩ <;> rfl)
            | (refine Or.inl ⟨?_, ?_⟩; · rfl
               intro w hSw; (try dsimp only at hSw); go_simp; (try with_reducible rfl); done)
        try simp only [Act.put, List.setIfInBounds_toArray, List.set_cons_zero, List.set_cons_succ]
        refine wpAnyH_ready (rs := [13]) (by kernel_rfl) (by simp) ?_
        refine AllReadyH.cons (o := ?_) ?_ (fun K hK => ?_) AllReadyH.nil
        rotate_left 1
        · simp only [List.getElem?_toArray, List.getElem?_cons_succ, List.getElem?_cons_zero]; rfl
        go_simp
        have HB3 := Lib.hid ((HB2.out.setCell (p := ⟨w.heap.size, 0, none⟩) (Nat.le_refl _) (.slice (some ⟨g1, 0, none⟩) y.n c1)).setCell (p := ⟨w.heap.size, 1, none⟩) (Nat.le_refl _) (.slice (some ⟨g2, 0, none⟩) y.m c2))
        refine hK.out _ _ ?_ (fun hHeld => ?_)
        · try dsimp only
          exact HCC.out _ HB3.out
        clear hK K
        try simp only [Act.put, List.setIfInBounds_toArray, List.set_cons_zero, List.set_cons_succ]
        refine wpAnyH_take (i := 14) (oi := ?_) (v := ?_) ?_ (by kernel_rfl) (by kernel_rfl) (by kernel_rfl) ?_ ?_ (by assumption) ?_
        rotate_left 2
        · simp only [List.getElem?_toArray, List.getElem?_cons_succ, List.getElem?_cons_zero]; rfl
        · exact fun _ _ _ h => h
        · first
            | (refine Or.inr ⟨?_, ?_⟩ <;> rfl)
            | (refine Or.inl ⟨?_, ?_⟩; · rfl
               intro w hSw; (try dsimp only at hSw); go_simp; (try with_reducible rfl); done)
        try simp only [Act.put, List.setIfInBounds_toArray, List.set_cons_zero, List.set_cons_succ]
        refine wpAnyH_done (by kernel_rfl) ?_ _
        clear hxc hxf hxl
        have HX3 : Hid (Bx ((w2.setCell ⟨w.heap.size, 0, none⟩ (.slice (some ⟨g1, 0, none⟩) y.n c1)).setCell ⟨w.heap.size, 1, none⟩ (.slice (some ⟨g2, 0, none⟩) y.m c2)) w.heap.size 31 #[.slice (some ⟨g1, 0, none⟩) y.n c1, .slice (some ⟨g2, 0, none⟩) y.m c2]) := by
          have hb := (HX2.out.set 0 (.slice (some ⟨g1, 0, none⟩) y.n c1)).set 1 (.slice (some ⟨g2, 0, none⟩) y.m c2)
          show Bx _ _ _ _
          simpa using hb
        have hLO : LnO w.heap.size ((w2.setCell ⟨w.heap.size, 0, none⟩ (.slice (some ⟨g1, 0, none⟩) y.n c1)).setCell ⟨w.heap.size, 1, none⟩ (.slice (some ⟨g2, 0, none⟩) y.m c2)) (.agg #[.slice (some ⟨g1, 0, none⟩) y.n c1, .slice (some ⟨g2, 0, none⟩) y.m c2]) y := by
          obtain ⟨q1, e1, q2, e2, e, h1, h2, h3, h4, h5⟩ := HL0.out
          cases e
          have h4' : w.heap.size + 1 ≤ g1 := by simpa using h4
          have h5' : w.heap.size + 1 ≤ g2 := by simpa using h5
          exact ⟨_, _, _, _, rfl, (h1.setOther (by dsimp only; omega) _).setOther (by dsimp only; omega) _, (h2.setOther (by dsimp only; omega) _).setOther (by dsimp only; omega) _, h3, by omega, by omega⟩
        have HL3 := Lib.hid hLO
        clear hLO
        have hxc := HX3.out.cell
        generalize (w2.setCell ⟨w.heap.size, 0, none⟩ (.slice (some ⟨g1, 0, none⟩) y.n c1)).setCell ⟨w.heap.size, 1, none⟩ (.slice (some ⟨g2, 0, none⟩) y.m c2) = w3 at *
        clear hHeld
        obtain ⟨p1, d1, p2, d2, vm, vt, hs3, hown⟩ := HS.out.keep (Fr.of_below HB3.out (fun q => ¬ own q))
        have hsb := hs3.box.lt
        have hsf := hs3.box.free
        have hsc := hs3.box.cell
        clear hs3 hown
        go_wp2_with fail
        go_ret
        exact ⟨by rw [HOT.out]; rfl, by rw [HST.out]; exact ses_line HB3.out (HS.out.keep (Fr.of_below HB3.out _)) HL3.out HSL.out hz HSO.out⟩
      · exact AllReadyH.nil
end Go.Proofs.YtlkdmpfifpkpaaaGreatDoor
namespace Go.Proofs.YtlkdmpfifpkpaaaGreatDoor
open Go.RowKit

theorem Fr.trans2 {S T : Nat → Prop} {a b c : World} (h : Fr S a b) (k : Fr T b c) (hT : ∀ q, T q → S q ∨ a.heap.size ≤ q) : Fr S a c :=
  ⟨k.os.trans h.os, k.tape.trans h.tape, k.output.trans h.output, Nat.le_trans h.size k.size, fun i hi hs => (k.block i (Nat.lt_of_lt_of_le hi h.size) (fun ht => by rcases hT i ht with e | e; exact hs e; omega)).trans (h.block i hi hs)⟩
end Go.Proofs.YtlkdmpfifpkpaaaGreatDoor
namespace Go.Proofs.YtlkdmpfifpkpaaaGreatDoor
open Go.RowKit

/-- the box of BlockNext -/
structure BtM (w wr : World) (q : Nat) : Prop where
  box : Bx wr w.heap.size 76 #[.int .i64 (stB q).n, .bool (stB q).i, .bool (stB q).o]
  bl : Below w.heap.size w wr
theorem BtM.below {w wr w' : World} {q : Nat} (h : BtM w wr q) (hb : Below wr.heap.size wr w') : BtM w w' q :=
  ⟨h.box.below hb h.box.lt, h.bl.trans (hb.mono h.bl.size)⟩
end Go.Proofs.YtlkdmpfifpkpaaaGreatDoor
namespace Go.Proofs.YtlkdmpfifpkpaaaGreatDoor
open Go.RowKit

/-- the boxes of l91Events -/
structure EvM (w wr : World) (R q M : Nat) : Prop where
  box : Bx wr w.heap.size 76 #[.int .i64 (stB q).n, .bool (stB q).i, .bool (stB q).o]
  rd : RdL wr R M
  hR : R < w.heap.size
  gr : w.grownBy wr (some R)
section
variable {w wr w' : World} {R q M M' : Nat}
theorem EvM.lt (h : EvM w wr R q M) : w.heap.size < wr.heap.size := h.box.lt
theorem EvM.below (h : EvM w wr R q M) (hb : Below wr.heap.size wr w') : EvM w w' R q M := ⟨h.box.below hb h.box.lt, h.rd.keep hb, h.hR, grownBy_trans h.gr (grownBy_below hb _)⟩
theorem EvM.drew (h : EvM w wr R q M) : EvM w wr.drew R q M := h.below (Below.refl _ _).drew
theorem EvM.pick (h : EvM w wr R q M) (hr : RdL w' R M') (hg : wr.grownBy w' (some R)) : EvM w w' R q M' := by
  have a1 := h.hR
  exact ⟨h.box.kept hg (by omega), hr, h.hR, grownBy_trans h.gr hg⟩
end
end Go.Proofs.YtlkdmpfifpkpaaaGreatDoor
namespace Go.Proofs.YtlkdmpfifpkpaaaGreatDoor
open Go.RowKit

/-- a row of notes of its own -/
def OwnN (w : World) (g cap : Nat) (ns : List (Int × ByteArray)) : Prop := Own w g cap ns.length 2 155 (mvF (nM ns) (nL ns))
/-- all notes of a list are small -/
def SmN (ns : List (Int × ByteArray)) : Prop := ∀ z, z ∈ ns → (-1 ≤ z.1 ∧ z.1 ≤ 2001) ∧ z.2.size ≤ 2
theorem SmN.at {ns : List (Int × ByteArray)} (h : SmN ns) {i : Nat} (hi : i < ns.length) : (-1 ≤ nM ns i ∧ nM ns i ≤ 2001) ∧ (nL ns i).size ≤ 2 := by
  rw [nM_at hi, nL_at hi]
  exact h _ (List.getElem_mem hi)
/-- between two rounds of l92Notes -/
structure NsI (w wr : World) (R g cap M : Nat) (ns : List (Int × ByteArray)) : Prop where
  ow : OwnN wr g cap ns
  gz : w.heap.size ≤ g
  sm : SmN ns
  rd : RdL wr R M
  hR : R < w.heap.size
  gr : w.grownBy wr (some R)
theorem NsI.pick {w wr w' : World} {R g cap M M' : Nat} {ns : List (Int × ByteArray)} (h : NsI w wr R g cap M ns) (hr : RdL w' R M') (hg : wr.grownBy w' (some R)) : NsI w w' R g cap M' ns := by
  have a1 := h.hR
  have a2 := h.gz
  exact ⟨Own.kept h.ow hg (by simp; omega), h.gz, h.sm, hr, h.hR, grownBy_trans h.gr hg⟩
end Go.Proofs.YtlkdmpfifpkpaaaGreatDoor
namespace Go.Proofs.YtlkdmpfifpkpaaaGreatDoor
open Go.RowKit

/-- between two rounds of RegisterOf -/
structure RoI (w wr : World) (g cap : Nat) (xs : List (Int × ByteArray)) : Prop where
  ow : OwnN wr g cap xs
  gz : w.heap.size ≤ g
  bl : Below w.heap.size w wr
theorem RoI.keep {w wr wa : World} {g cap : Nat} {xs : List (Int × ByteArray)} (h : RoI w wr g cap xs) (hb : Below wr.heap.size wr wa) : RoI w wa g cap xs :=
  ⟨Own.below h.ow hb (Own.lt h.ow), h.gz, h.bl.trans (hb.mono h.bl.size)⟩
theorem RoI.push {w wr wa : World} {g cap g' c' : Nat} {xs : List (Int × ByteArray)} {z : Int × ByteArray} (h : RoI w wr g cap xs) (HA : Own wa g' c' (xs.length + 1) 2 155 (mvF (nM (xs ++ [z])) (nL (xs ++ [z])))) (hgr : wr.grownBy wa (some g)) (hd : g' = g ∨ wr.heap.size ≤ g') :
    RoI w wa g' c' (xs ++ [z]) := by
  have hgz := h.gz
  have hbs := h.bl.size
  refine ⟨?_, ?_, h.bl.trans (below_of_grown hgr hgz hbs)⟩
  · unfold OwnN
    rw [List.length_append]
    exact HA
  · rcases hd with q | q <;> omega
end Go.Proofs.YtlkdmpfifpkpaaaGreatDoor
namespace Go.Proofs.YtlkdmpfifpkpaaaGreatDoor
open Go.RowKit

/-- the world facts that the library asks for -/
structure WF (m : Int) (w : World) : Prop where
  mx : w.cell? ⟨0, 0, none⟩ = some (.int .i64 m)
  tab : Lib.TabIs Tryz.prog w "internal/strconv.uint64pow10" .u64 Lib.pow10Tab
theorem var_keep {w w' : World} {nm : String} {r : Array Value} (h : w.var? Tryz.prog nm = some r) (hb : Below w.heap.size w w') : w'.var? Tryz.prog nm = some r := by
  unfold World.var? at h ⊢
  cases hg : Tryz.prog.globalNamed nm with
  | none => rw [hg] at h; cases h
  | some g =>
    rw [hg] at h
    simp only [Option.bind_some] at h ⊢
    have hlt : g < w.heap.size := by
      rcases Nat.lt_or_ge g w.heap.size with h' | h'
      · exact h'
      · simp [Array.getElem?_eq_none h'] at h
    rw [hb.block g hlt]
    exact h
theorem WF.below {m : Int} {w w' : World} (h : WF m w) (hb : Below w.heap.size w w') : WF m w' :=
  ⟨by rw [hb.cell (p := ⟨0, 0, none⟩) (World.block_lt_of_cell? w ⟨0, 0, none⟩ h.mx)]; exact h.mx, var_keep h.tab hb⟩
/-- a number as Itoa writes it -/
def itT (n : Int) : ByteArray := ⟨(Lib.itoa n).toArray⟩
theorem itT_size (n : Int) (h0 : -9223372036854775808 ≤ n) (h1 : n ≤ 9223372036854775807) : (itT n).size ≤ 21 := by
  have := Lib.itoa_length_le n h0 h1
  unfold itT
  show (Lib.itoa n).toArray.size ≤ 21
  simpa using this
theorem itoa_any {m : Int} (n : Int) (h0 : -9223372036854775808 ≤ n) (h1 : n ≤ 9223372036854775807) (w : World) (hW : WF m w) :
    Calls Tryz.prog 38 #[.int .i64 n] w fun e w' => e = .returned (.string (itT n)) ∧ Below w.heap.size w w' :=
  (Tryz.strconv_Itoa n h0 h1 w hW.tab).mono fun _ _ ⟨e1, k, os, e2⟩ => ⟨e1, by rw [e2]; exact Lib.below_grow _ _ (Nat.le_refl _) _ _⟩
/-- a row of texts of its own -/
def OwT (w : World) (g cap n : Nat) (tx : Nat → ByteArray) : Prop := Own w g cap n 1 9 (fun i => .string (tx i))
/-- the texts of a row, joined -/
def jnT (tx : Nat → ByteArray) (n : Nat) : ByteArray := ⟨(Lib.join ((List.range n).map fun i => (tx i).data.toList) [32]).toArray⟩
theorem lens_le (B : Nat) : ∀ xs : List (List UInt8), (∀ x ∈ xs, x.length ≤ B) → Lib.lens xs ≤ xs.length * B
  | [], _ => by simp [Lib.lens]
  | x :: r, h => by
    have h1 := lens_le B r (fun y hy => h y (List.mem_cons_of_mem _ hy))
    have h2 := h x (List.mem_cons_self ..)
    have h3 : Lib.lens (x :: r) = x.length + Lib.lens r := by simp [Lib.lens]
    rw [h3, List.length_cons, Nat.succ_mul]
    omega
theorem join_len (xs : List (List UInt8)) (c : UInt8) (B : Nat) (h : ∀ x ∈ xs, x.length ≤ B) : (Lib.join xs [c]).length ≤ xs.length * (B + 1) := by
  cases xs with
  | nil => simp [Lib.join_nil]
  | cons x r =>
    have := lens_le B (x :: r) h
    rw [Lib.join_length, Nat.mul_add]
    simp only [List.length_cons, List.length_nil] at this ⊢
    omega
theorem join_any (g c n : Nat) (tx : Nat → ByteArray) (w : World) (hn : n ≤ 1000) (hB : ∀ i, i < n → (tx i).size ≤ 1000) (h : OwT w g c n tx) :
    Calls Tryz.prog 127 #[.slice (some ⟨g, 0, none⟩) n c, .string ⟨#[32]⟩] w fun e w' => e = .returned (.string (jnT tx n)) ∧ Below w.heap.size w w' := by
  have q := Tryz.strings_Join g 0 c ((List.range n).map tx) ⟨#[32]⟩ w (fun j x hj => ?_) h.lt (by simp; omega) (by simpa using h.1) ?_
  · simpa [jnT, Function.comp_def] using q
  · rw [List.getElem?_map] at hj
    rcases Nat.lt_or_ge j n with hlt | hge
    · rw [List.getElem?_range hlt] at hj
      cases hj
      rw [Nat.zero_add]
      exact h.cell (i := j) (by omega)
    · rw [List.getElem?_eq_none (by simpa using hge)] at hj
      cases hj
  · have := join_len ((((List.range n).map tx).map (·.data.toList))) 32 1000 (fun x hx => by
      simp only [List.mem_map, List.mem_range] at hx
      obtain ⟨_, ⟨i, hi, rfl⟩, rfl⟩ := hx
      simpa using hB i hi)
    simp only [List.length_map, List.length_range] at this
    have h2 : n * (1000 + 1) ≤ 1000 * 1001 := Nat.mul_le_mul_right _ hn
    show (Lib.join _ [32]).length ≤ _
    omega
end Go.Proofs.YtlkdmpfifpkpaaaGreatDoor
namespace Go.Proofs.YtlkdmpfifpkpaaaGreatDoor
open Go.RowKit

theorem elStr : Elem Tryz.prog 60 9 (.string ⟨#[]⟩) 1 16 := ⟨Tryz.underlying60, by kernel_rfl, rfl, by decide⟩
/-- between two rounds of a loop that tells texts -/
structure TdI (w wr : World) (g cap j : Nat) (tx : Nat → ByteArray) : Prop where
  ow : OwT wr g cap j tx
  gz : w.heap.size ≤ g
  bl : Below w.heap.size w wr
theorem TdI.keep {w wr wa : World} {g cap j : Nat} {tx : Nat → ByteArray} (h : TdI w wr g cap j tx) (hb : Below wr.heap.size wr wa) : TdI w wa g cap j tx :=
  ⟨Own.below h.ow hb (Own.lt h.ow), h.gz, h.bl.trans (hb.mono h.bl.size)⟩
theorem TdI.push {w wr wa : World} {g cap g' c' j : Nat} {tx : Nat → ByteArray} (h : TdI w wr g cap j tx) (HA : OwT wa g' c' (j + 1) tx) (hgr : wr.grownBy wa (some g)) (hd : g' = g ∨ wr.heap.size ≤ g') : TdI w wa g' c' (j + 1) tx := by
  have hgz := h.gz
  have hbs := h.bl.size
  refine ⟨HA, ?_, h.bl.trans (below_of_grown hgr hgz hbs)⟩
  rcases hd with q | q <;> omega
end Go.Proofs.YtlkdmpfifpkpaaaGreatDoor
namespace Go.Proofs.YtlkdmpfifpkpaaaGreatDoor
open Go.RowKit

theorem gPow : Tryz.prog.globalNamed "internal/strconv.uint64pow10" = some 1 := by kernel_rfl
theorem WF.size {m : Int} {w : World} (h : WF m w) : 2 ≤ w.heap.size := by
  have h1 := h.tab
  unfold Lib.TabIs World.var? at h1
  rw [gPow] at h1
  simp only [Option.bind_some] at h1
  rcases Nat.lt_or_ge 1 w.heap.size with h' | h'
  · omega
  · simp [Array.getElem?_eq_none h'] at h1
theorem WF.fr {S : Nat → Prop} {m : Int} {w w' : World} (h : WF m w) (hf : Fr S w w') (hS : ∀ q, S q → 2 ≤ q) : WF m w' := by
  have hs := h.size
  refine ⟨?_, ?_⟩
  · have hb := hf.block 0 (by omega) (fun e => by have := hS 0 e; omega)
    have hm := h.mx
    simp only [World.cell?] at hm ⊢
    rw [hb]
    exact hm
  · have hb := hf.block 1 (by omega) (fun e => by have := hS 1 e; omega)
    have h1 := h.tab
    unfold Lib.TabIs World.var? at h1 ⊢
    rw [gPow] at h1 ⊢
    simp only [Option.bind_some] at h1 ⊢
    rw [hb]
    exact h1
/-- a line of a script on a session: the session behind it and what it says -/
def Ans (st : Ses) (t : ByteArray) (st' : Ses) (o : ByteArray) : Prop :=
  ∀ (z s : Nat) (m : Int) (own : Nat → Prop) (w : World), z ≤ w.heap.size → 2 ≤ z → WF m w → StS z st own w s → Calls Tryz.prog 37 #[.pointer (some ⟨s, 0, none⟩), .string t] w (Md z st' o s own w)
/-- a session as the commands keep it -/
structure SesOk (st : Ses) : Prop where
  xv : vldL st.x = true
  t0 : 0 ≤ st.tm
  t1 : st.tm ≤ 2000
  ml : st.ms.length ≤ 100
  tl : st.ts.length = st.ms.length
def ses0 : Ses := { x := newL 1 0, tm := 0, ms := [], ts := [] }
theorem ans_line {st : Ses} {t : ByteArray} (ht : t.size ≤ 1000) (hc : cmdK (wd0 t) (wdL t).length = 0) (hl : (wdL t).length = 3) : Ans st t (lwS st (wdI t 1) (wdI t 2)) (lwO (wdI t 1) (wdI t 2)) :=
  fun z s m own w hz _ hW hS => line_some z s 0 t m st _ _ own w ht hW.mx hc (by omega) hS fun W bw hS2 hb hw _ =>
    doLine_any z s bw (wdL t).length (wdL t).length (wdI t 1) (wdI t 2) st own W (by omega) (Nat.le_trans hz hb.size) hS2 (hw 1 (by omega)) (hw 2 (by omega))
end Go.Proofs.YtlkdmpfifpkpaaaGreatDoor
namespace Go.Proofs.YtlkdmpfifpkpaaaGreatDoor
open Go.RowKit

/-- the session's paths, in blocks of O -/
def PsR (z : Nat) (w : World) (pa : Option Addr) (ps : List Pt) (O : Nat → Prop) : Prop :=
  (∀ q, O q → z ≤ q ∧ q < w.heap.size) ∧ ∀ k, k < ps.length → ∃ g bi ci bo co, pa = some ⟨g, 0, none⟩ ∧ PtA w g (k * 2) (pA ps k) bi ci bo co ∧ O g ∧ O bi ∧ O bo
theorem Fr.cellN {S : Nat → Prop} {w w' : World} (h : Fr S w w') {b o : Nat} (hb : b < w.heap.size) (hs : ¬ S b) : w'.cell? ⟨b, o, none⟩ = w.cell? ⟨b, o, none⟩ := by
  have := h.block b hb hs
  simp only [World.cell?, this]
theorem PsR.fr {S O : Nat → Prop} {z : Nat} {w w' : World} {pa : Option Addr} {ps : List Pt} (h : PsR z w pa ps O) (hf : Fr S w w') (hd : ∀ q, O q → ¬ S q) : PsR z w' pa ps O := by
  obtain ⟨h1, h2⟩ := h
  refine ⟨fun q hq => ⟨(h1 q hq).1, Nat.lt_of_lt_of_le (h1 q hq).2 hf.size⟩, fun k hk => ?_⟩
  obtain ⟨g, bi, ci, bo, co, e, hp, o1, o2, o3⟩ := h2 k hk
  refine ⟨g, bi, ci, bo, co, e, ⟨?_, ?_, fun i hi => ?_, fun i hi => ?_⟩, o1, o2, o3⟩
  · rw [hf.cellN (h1 g o1).2 (hd g o1)]; exact hp.c0
  · rw [hf.cellN (h1 g o1).2 (hd g o1)]; exact hp.c1
  · rw [hf.cellN (h1 bi o2).2 (hd bi o2)]; exact hp.I i hi
  · rw [hf.cellN (h1 bo o3).2 (hd bo o3)]; exact hp.O i hi
theorem PsR.psv {z : Nat} {w : World} {pa : Option Addr} {ps : List Pt} {O : Nat → Prop} (h : PsR z w pa ps O) : PsV w pa ps := fun k hk => by
  obtain ⟨g, bi, ci, bo, co, e, hp, _⟩ := h.2 k hk
  exact ⟨g, bi, ci, bo, co, e, hp⟩
theorem PsR.nil (z : Nat) (w : World) (pa : Option Addr) : PsR z w pa [] (fun _ => False) := ⟨fun q h => h.elim, fun k hk => by simp at hk⟩
def StP (z : Nat) (st : Ses) (ps : List Pt) (own : Nat → Prop) (w : World) (s : Nat) : Prop :=
  ∃ pa pc own1 O, StS z { st with pa := pa, pn := ps.length, pc := pc } own1 w s ∧ PsR z w pa ps O ∧ (∀ q, own q ↔ own1 q ∨ O q) ∧ ∀ q, own1 q → ¬ O q
theorem StP.keep {z : Nat} {st : Ses} {ps : List Pt} {own : Nat → Prop} {w w' : World} {s : Nat} (h : StP z st ps own w s) (hf : Fr (fun q => ¬ own q) w w') : StP z st ps own w' s := by
  obtain ⟨pa, pc, own1, O, h1, h2, h3, h4⟩ := h
  exact ⟨pa, pc, own1, O, h1.keep (hf.mono fun q _ hq h => hq ((h3 q).2 (.inl h))), h2.fr hf (fun q hq hn => hn ((h3 q).2 (.inr hq))), h3, h4⟩
theorem StP.oz {z : Nat} {st : Ses} {ps : List Pt} {own : Nat → Prop} {w : World} {s : Nat} (h : StP z st ps own w s) : own s ∧ ∀ q, own q → z ≤ q ∧ q < w.heap.size := by
  obtain ⟨pa, pc, own1, O, h1, h2, h3, _⟩ := h
  refine ⟨(h3 s).2 (.inl h1.oz.1), fun q hq => ?_⟩
  rcases (h3 q).1 hq with h | h
  · exact h1.oz.2 q h
  · exact h2.1 q h
/-- what a method of the session does, its paths too -/
def MdP (z : Nat) (st' : Ses) (ps' : List Pt) (o : ByteArray) (s : Nat) (own : Nat → Prop) (w : World) (e : Ending) (w' : World) : Prop :=
  e = .returned (.string o) ∧ ∃ own', StP z st' ps' own' w' s ∧ Fr own w w' ∧ ∀ q, own' q → own q ∨ w.heap.size ≤ q
theorem MdP.same {z : Nat} {st : Ses} {ps : List Pt} {o : ByteArray} {s : Nat} {own : Nat → Prop} {w w' : World} {e : Ending} (h : StP z st ps own w s) (he : e = .returned (.string o)) (hb : Below w.heap.size w w') : MdP z st ps o s own w e w' :=
  ⟨he, own, h.keep (Fr.of_below hb _), Fr.of_below hb own, fun _ hq => .inl hq⟩
/-- a line that is a command, on a session with its paths -/
theorem lineP_some (z s k : Nat) (t : ByteArray) (m : Int) (st st' : Ses) (ps ps' : List Pt) (o : ByteArray) (own : Nat → Prop) (w : World) (ht : t.size ≤ 1000) (hm : w.cell? ⟨0, 0, none⟩ = some (.int .i64 m)) (hc : cmdK (wd0 t) (wdL t).length = k) (hk : k < 9) (hS : StP z st ps own w s)
    (HC : ∀ W bw, StP z st ps own W s → Below w.heap.size w W → (∀ i, i < (wdL t).length → W.cell? ⟨bw, i, none⟩ = some (.string (wdI t i))) → ¬ own bw → Calls Tryz.prog (cmF k) #[.pointer (some ⟨s, 0, none⟩), .slice (some ⟨bw, 0, none⟩) (wdL t).length (wdL t).length] W (MdP z st' ps' o s own W)) :
    Calls Tryz.prog 37 #[.pointer (some ⟨s, 0, none⟩), .string t] w (MdP z st' ps' o s own w) := by
  have hoz := hS.oz.2
  refine (answer_some s k t m (fun o' w' => o' = o ∧ ∃ own', StP z st' ps' own' w' s ∧ Fr own w w' ∧ ∀ q, own' q → own q ∨ w.heap.size < q) w ht hm hc hk (fun W bw hW hz hl hw => ?_)).mono ?_
  · have hS2 : StP z st ps own W s := hS.keep (Fr.of_below hW _)
    refine (HC W bw hS2 hW hw (fun h => by have := (hoz bw h).2; omega)).mono ?_
    rintro e w' ⟨rfl, own', h1, h2, h3⟩
    refine ⟨o, rfl, fun b hb1 hb2 => h2.block b hb2 (fun h => by have := (hoz b h).2; omega), rfl, own', h1, (Fr.of_below hW own).trans h2, fun q hq => ?_⟩
    rcases h3 q hq with h | h
    · exact .inl h
    · right; omega
  · rintro e w' ⟨o', w2, rfl, ⟨rfl, own', h1, h2, h3⟩, hlt, rfl⟩
    have hset := Fr.set w2 ⟨w.heap.size, 0, none⟩ (.string o')
    refine ⟨rfl, own', h1.keep (hset.mono (fun q _ hq ho => ?_)), ⟨h2.os, h2.tape, h2.output, by have := h2.size; simpa using this, fun k hk hs => ?_⟩, fun q hq => ?_⟩
    · have hqe : q = w.heap.size := hq
      rcases h3 q ho with h | h
      · have := (hoz q h).2; omega
      · omega
    · rw [hset.block k (by have := h2.size; omega) (fun e => by have : k = w.heap.size := e; omega)]
      exact h2.block k hk hs
    · rcases h3 q hq with h | h
      · exact .inl h
      · right; omega
/-- a line of a script on a session with its paths -/
def AnsP (st : Ses) (ps : List Pt) (t : ByteArray) (st' : Ses) (ps' : List Pt) (o : ByteArray) : Prop :=
  ∀ (z s : Nat) (m : Int) (own : Nat → Prop) (w : World), z ≤ w.heap.size → 2 ≤ z → WF m w → StP z st ps own w s → Calls Tryz.prog 37 #[.pointer (some ⟨s, 0, none⟩), .string t] w (MdP z st' ps' o s own w)
/-- a line that makes the session anew -/
theorem AnsP.of_new {st st' : Ses} {ps : List Pt} {t o : ByteArray} (h : ∀ pa pc, Ans { st with pa := pa, pn := ps.length, pc := pc } t { st' with pa := none, pn := 0, pc := 0 } o) : AnsP st ps t st' [] o := by
  intro z s m own w hz hz2 hW hS
  obtain ⟨pa, pc, own1, O, h1, h2, h3, h4⟩ := hS
  refine (h pa pc z s m own1 w hz hz2 hW h1).mono fun e w' hm => ?_
  obtain ⟨he, own', k1, k2, k3⟩ := hm
  refine ⟨he, own', ⟨none, 0, own', fun _ => False, k1, PsR.nil _ _ _, fun q => by simp, fun q _ h => h⟩, k2.mono (fun q _ hq => (h3 q).2 (.inl hq)), fun q hq => ?_⟩
  rcases k3 q hq with h | h
  · exact .inl ((h3 q).2 (.inl h))
  · exact .inr h
/-- a script, paths too -/
theorem executeP_of (t : ByteArray) (m : Int) (w : World) (hsz : t.size ≤ 500) (hW : WF m w) (sts : Nat → Ses) (pss : Nat → List Pt) (out : Nat → ByteArray) (h0 : sts 0 = ses0) (h0' : pss 0 = []) (hout : ∀ k, (out k).size ≤ 1000000)
    (hst : ∀ k, k + 1 < (lnT t).length → AnsP (sts k) (pss k) (lnI t k) (sts (k + 1)) (pss (k + 1)) (out k)) (hm : (sts ((lnT t).length - 1)).x.m < 100) (hp : (pss ((lnT t).length - 1)).length < 100) :
    Calls Tryz.prog 11 #[.string t] w fun e w' => e = .returned (.string ⟨(exO out ((lnT t).length - 1) ++ (exT (sts ((lnT t).length - 1)).x.m (pss ((lnT t).length - 1)).length).data.toList).toArray⟩) ∧ Below w.heap.size w w' := by
  refine execute_gen t m w hsz hW.mx (fun k own W s => StP w.heap.size (sts k) (pss k) own W s) out (sts ((lnT t).length - 1)).x.m (pss ((lnT t).length - 1)).length hout hm hp ?_ ?_ ?_ ?_
  · intro W s g1 c1 g2 c2 hb h1 h2 h12 hs1 hs2 hbx ho1 ho2
    rw [h0, h0']
    refine ⟨none, 0, _, fun _ => False, ⟨g1, c1, g2, c2, .slice none 0 0, .slice none 0 0, ⟨hbx, ho1, ho2, .inr ⟨rfl, rfl⟩, .inr ⟨rfl, rfl⟩, h12, by omega, by omega, fun q hq => (by cases hq), fun q hq => (by cases hq), h1, h2, by omega⟩, fun q => Iff.rfl⟩, PsR.nil _ _ _, fun q => ?_, fun q _ h => h⟩
    unfold ownS
    constructor
    · rintro (h | h | h)
      · exact .inl (.inl h)
      · exact .inl (.inr (.inl h))
      · exact .inl (.inr (.inr (.inl h)))
    · rintro (h | h)
      · rcases h with h | h | h | h | h
        · exact .inl h
        · exact .inr (.inl h)
        · exact .inr (.inr h)
        · cases h
        · cases h
      · exact h.elim
  · intro k own W W' s h hf
    exact h.keep hf
  · intro k own W s hk hS hb _
    refine (hst k hk w.heap.size s m own W hb.size hW.size (hW.below hb) hS).mono ?_
    rintro e w' ⟨rfl, own', h1, h2, h3⟩
    exact ⟨rfl, own', h1, h2, h1.oz.1, fun q hq => ⟨h3 q hq, (h1.oz.2 q hq).2⟩⟩
  · intro own W s ⟨pa, pc, own1, O, ⟨g1, c1, g2, c2, vm, vt, h, _⟩, _⟩
    exact ⟨⟨_, _, h.box.cell 1⟩, ⟨_, _, h.box.cell 2⟩⟩
end Go.Proofs.YtlkdmpfifpkpaaaGreatDoor
