/-
  Parts of the proof of fnExecuteBook_proved: Ki Kj Kk Ko Ha Jr Js. No condition.
-/
import Derived.Laws.BitsAllLaws
import Derived.Lib.Builder
import Derived.Lib.AppendStr
import Derived.Lib.UnsafeStr
import Derived.Lib.Strings
import Derived.Lib.Slices
import Derived.Laws.Externs
import Derived.Shelf.Strings.Builder1
import Derived.Shelf.Strings.Builder2
import Derived.Shelf.Strings.OnBuilder
import Derived.Shelf.Strings.BuilderF
import Derived.Shelf.Strconv.Itoa0
import Derived.Shelf.Strconv.Itoa1
import Derived.Shelf.LaysM
import Derived.Shelf.Strconv.Itoa2
import Derived.Shelf.Strconv.Itoa3
import Derived.Shelf.Strings.Search1
import Derived.Shelf.Strings.Search2
import Derived.Shelf.Strings.Search3
import Derived.Shelf.Strings.Count
import Derived.Shelf.Strings.Shaped
import Derived.Shelf.Strings.Split
import Derived.Shelf.Strings.SplitShaped
import Derived.Shelf.Unicode.DecodeSlow
import Derived.Test.YtlkdmpfifpkpaaaGreatDoorProg
import Derived.Deep.QuietTactic
import Derived.BigQuiet
import Derived.Test.YtlkdmpfifpkpaaaGreatDoorChecked
import Derived.WalkKit
import Derived.WalkSpells
import Derived.WalkLawsBesides
import Derived.Lib.Hide
import Derived.Deep.RegionHeld3
import Derived.Deep.DeepFit
import Derived.Deep.RegionWith
import Derived.Lib.IndexLaws
import Derived.Lib.SlBytesRow
import Derived.Deep.DeepCutAuto
import Derived.Maps.AppendAt
import Derived.RangeFuncNested
import Derived.RangeFuncBound
import Derived.RangeFuncCalls
import Derived.RangeFuncLeaves
import Derived.RangeFuncBox
import Derived.Shelf.Abstract
import Derived.OwnWalkIn
import Derived.TacticsInMore
import Derived.LoopNIn
import Derived.LoopIn
import Derived.Lib.ItoaLen
import Derived.Shelf.RegionOpen
import Derived.Recover
import Derived.Defers
import Derived.Lib.ItoaMem
import Derived.Lib.AppendIntMem
import Derived.Lib.SplitLaws
import Derived.OrdersIn
import Derived.OrdersHeld
import Derived.Deep.RegionHeld
import Derived.Test.YtlkdmpfifpkpaaaGreatDoorQ01
import Derived.Test.YtlkdmpfifpkpaaaGreatDoorQ02
import Derived.Test.YtlkdmpfifpkpaaaGreatDoorQ03
import Derived.Test.YtlkdmpfifpkpaaaGreatDoorQ04
import Derived.Test.YtlkdmpfifpkpaaaGreatDoorQ05
import Derived.Test.YtlkdmpfifpkpaaaGreatDoorQ06
import Derived.Test.YtlkdmpfifpkpaaaGreatDoorQ07
import Derived.Test.YtlkdmpfifpkpaaaGreatDoorQ08
import Derived.Test.YtlkdmpfifpkpaaaGreatDoorQ09
import Derived.Test.YtlkdmpfifpkpaaaGreatDoorQ10
import Derived.Test.YtlkdmpfifpkpaaaGreatDoorQ11
namespace Go.Proofs.YtlkdmpfifpkpaaaGreatDoor
open Go.RowKit

theorem bsV_any (j : Nat) : ∃ q, q < 5 ∧ bsV j = .agg #[.int .i64 (stB q).n, .bool (stB q).i, .bool (stB q).o] := by
  by_cases h : j < 5
  · exact ⟨j, h, if_pos h⟩
  · exact ⟨0, by omega, if_neg h⟩
theorem ex_size (t : ByteArray) (k : Nat) : (t.extract k (k + 1)).size ≤ 1 := by
  rw [ByteArray.size_extract]
  omega
/-- the box of BlockNext -/
structure BtM (w wr : World) (q : Nat) : Prop where
  box : Bx wr w.heap.size 76 #[.int .i64 (stB q).n, .bool (stB q).i, .bool (stB q).o]
  bl : Below w.heap.size w wr
theorem BtM.below {w wr w' : World} {q : Nat} (h : BtM w wr q) (hb : Below wr.heap.size wr w') : BtM w w' q :=
  ⟨h.box.below hb h.box.lt, h.bl.trans (hb.mono h.bl.size)⟩
set_option linter.unusedSimpArgs false in
set_option maxRecDepth 100000 in
set_option maxHeartbeats 4000000 in
theorem specNext_some (s : Nat) (w : World) :
    Calls Tryz.prog 90 #[.agg #[.int .i64 (stB s).n, .bool (stB s).i, .bool (stB s).o]] w fun e w' => (∃ t : ByteArray, e = .returned (.string t) ∧ t.size ≤ 7) ∧ Below w.heap.size w w' := by
  have HM0 : Hid (BtM w (w.alloc (.cells #[.int .i64 (stB s).n, .bool (stB s).i, .bool (stB s).o] 76)) s) := ⟨Bx.new _ _ _, below_all _ _⟩
  go_enter Tryz.func90, Tryz.ntmps90
  go_wp2_with fail
  go_loopw [4, 5, 6, 7] (fun o i _ _ wr => ∃ k : Nat, k ≤ 7 ∧ i = .int .i64 k ∧ ∃ t : ByteArray, o = .string t ∧ t.size ≤ k ∧ Hid (BtM w wr s)) (fun _ i _ _ _ => 7 - (intOf i).toNat)
  case atStart => exact ⟨0, Nat.zero_le _, rfl, ⟨#[]⟩, rfl, Nat.le_refl _, HM0⟩
  case round =>
    obtain ⟨k, hk, rfl, t, rfl, ht, HM⟩ := hrel
    have hbc := HM.out.box.cell
    have hbl := HM.out.box.lt
    by_cases hlt : k < 7
    · have hki : (k : Int) < 7 := by omega
      have hki2 : (k : Int) + 1 ≤ 7 := by omega
      have hki0 : (0 : Int) ≤ (k : Int) := by omega
      have HST : Hid (∀ W l, Calls Tryz.prog 91 #[.agg #[.int .i64 (stB s).n, .bool (stB s).i, .bool (stB s).o], .string l] W fun e w' => (∃ q ok, e = .returned (.tuple #[.agg #[.int .i64 (stB q).n, .bool (stB q).i, .bool (stB q).o], .bool ok])) ∧ Below W.heap.size W w') := fun W l => by
        refine (specStep_any _ _ _ l W).mono fun e w' ⟨h1, h2⟩ => ⟨?_, h2⟩
        obtain ⟨q, _, hq⟩ := bsV_any (bsI (stB s).n (stB s).i (stB s).o l)
        rw [hq] at h1
        exact ⟨q, _, h1⟩
      have hes := ex_size ⟨#[97, 99, 101, 102, 108, 111, 114]⟩ k
      have hss : t.size + ((⟨#[97, 99, 101, 102, 108, 111, 114]⟩ : ByteArray).extract k (k + 1)).size ≤ maxLen := by unfold maxLen; omega
      go_wp2_with fail
      have hw1 : IntKind.i64.wrap ((k : Int) + 1) = (k : Int) + 1 := IntWalk.i64_in _ (by omega)
      have hw2 : ((k : Int) + 1).toNat = k + 1 := by omega
      have hw3 : (0 : Int) ≤ (k : Int) + 1 := by omega
      have hw4 : (k : Int) ≤ (k : Int) + 1 := by omega
      refine wp_region_held_drew (S := (fun w' => w'.cell? ⟨w.heap.size, 0, none⟩ = some (.int .i64 (stB s).n) ∧ w'.cell? ⟨w.heap.size, 1, none⟩ = some (.bool (stB s).i) ∧ w'.cell? ⟨w.heap.size, 2, none⟩ = some (.bool (stB s).o))) (by kernel_rfl) ?_ (fun hHeld => ?_)
      · try dsimp only
        go_keep
      refine wpAnyH_take (i := 0) (oi := ?_) (v := ?_) ?_ (by kernel_rfl) (by kernel_rfl) (by kernel_rfl) ?_ ?_ (by assumption) ?_
      rotate_left 2
      · simp only [List.getElem?_toArray, List.getElem?_cons_succ, List.getElem?_cons_zero]; rfl
      · exact fun _ _ _ h => h
      · first
          | (refine Or.inr ⟨?_, ?_⟩ <;> rfl)
          | (refine Or.inl ⟨?_, ?_⟩; · rfl
             intro w hSw; (try dsimp only at hSw); go_simp; (try with_reducible rfl); done)
      try simp only [Act.put, List.setIfInBounds_toArray, List.set_cons_zero, List.set_cons_succ]
      refine wpAnyH_take (i := 1) (oi := ?_) (v := ?_) ?_ (by kernel_rfl) (by kernel_rfl) (by kernel_rfl) ?_ ?_ (by assumption) ?_
      rotate_left 2
      · simp only [List.getElem?_toArray, List.getElem?_cons_succ, List.getElem?_cons_zero]; rfl
      · exact fun _ _ _ h => h
      · first
          | (refine Or.inr ⟨?_, ?_⟩ <;> rfl)
          | (refine Or.inl ⟨?_, ?_⟩; · rfl
             intro w hSw; (try dsimp only at hSw); go_simp; (try with_reducible rfl); done)
      try simp only [Act.put, List.setIfInBounds_toArray, List.set_cons_zero, List.set_cons_succ]
      refine wpAnyH_take (i := 2) (oi := ?_) (v := ?_) ?_ (by kernel_rfl) (by kernel_rfl) (by kernel_rfl) ?_ ?_ (by assumption) ?_
      rotate_left 2
      · simp only [List.getElem?_toArray, List.getElem?_cons_succ, List.getElem?_cons_zero]; rfl
      · exact fun _ _ _ h => h
      · first
          | (refine Or.inr ⟨?_, ?_⟩ <;> rfl)
          | (refine Or.inl ⟨?_, ?_⟩; · rfl
             intro w hSw; (try dsimp only at hSw); go_simp; (try with_reducible rfl); done)
      try simp only [Act.put, List.setIfInBounds_toArray, List.set_cons_zero, List.set_cons_succ]
      refine wpAnyH_take (i := 3) (oi := ?_) (v := ?_) ?_ (by kernel_rfl) (by kernel_rfl) (by kernel_rfl) ?_ ?_ (by assumption) ?_
      rotate_left 2
      · simp only [List.getElem?_toArray, List.getElem?_cons_succ, List.getElem?_cons_zero]; rfl
      · exact fun _ _ _ h => h
      · first
          | (refine Or.inr ⟨?_, ?_⟩ <;> rfl)
          | (refine Or.inl ⟨?_, ?_⟩; · rfl
             intro w hSw; (try dsimp only at hSw); go_simp; (try with_reducible rfl); done)
      try simp only [Act.put, List.setIfInBounds_toArray, List.set_cons_zero, List.set_cons_succ]
      refine wpAnyH_take (i := 4) (oi := ?_) (v := ?_) ?_ (by kernel_rfl) (by kernel_rfl) (by kernel_rfl) ?_ ?_ (by assumption) ?_
      rotate_left 2
      · simp only [List.getElem?_toArray, List.getElem?_cons_succ, List.getElem?_cons_zero]; rfl
      · exact fun _ _ _ h => h
      · first
          | (refine Or.inr ⟨?_, ?_⟩ <;> rfl)
          | (refine Or.inl ⟨?_, ?_⟩; · rfl
             intro w hSw; (try dsimp only at hSw); go_simp; (try with_reducible rfl); done)
      try simp only [Act.put, List.setIfInBounds_toArray, List.set_cons_zero, List.set_cons_succ]
      refine wpAnyH_take (i := 5) (oi := ?_) (v := ?_) ?_ (by kernel_rfl) (by kernel_rfl) (by kernel_rfl) ?_ ?_ (by assumption) ?_
      rotate_left 2
      · simp only [List.getElem?_toArray, List.getElem?_cons_succ, List.getElem?_cons_zero]; rfl
      · exact fun _ _ _ h => h
      · first
          | (refine Or.inr ⟨?_, ?_⟩ <;> rfl)
          | (refine Or.inl ⟨?_, ?_⟩; · rfl
             intro w hSw; (try dsimp only at hSw); go_simp; (try with_reducible rfl); done)
      try simp only [Act.put, List.setIfInBounds_toArray, List.set_cons_zero, List.set_cons_succ]
      clear hw1 hw2 hw3 hw4
      have HSK : Hid (∀ W, Below wr.heap.size wr W → W.cell? ⟨w.heap.size, 0, none⟩ = some (.int .i64 (stB s).n) ∧ W.cell? ⟨w.heap.size, 1, none⟩ = some (.bool (stB s).i) ∧ W.cell? ⟨w.heap.size, 2, none⟩ = some (.bool (stB s).o)) := fun W hW => ⟨(HM.out.below hW).box.cell 0, (HM.out.below hW).box.cell 1, (HM.out.below hW).box.cell 2⟩
      clear hbc
      refine wpAnyH_ready (rs := [6, 10]) (by kernel_rfl) (by simp) ?_
      refine AllReadyH.cons (o := ?_) ?_ (fun K hK => ?_) ?_
      rotate_left 1
      · simp only [List.getElem?_toArray, List.getElem?_cons_succ, List.getElem?_cons_zero]; rfl
      · go_simp
        go_at_call 91
        go_must (refine Calls.mono (HST.out _ _) ?_)
        rintro e w4 ⟨⟨q, ok, rfl⟩, hb⟩
        have HB4 : Hid (Below wr.heap.size wr w4) := (Below.refl _ wr).drew.trans hb
        clear hb
        refine hK.out _ _ ?_ (fun hHeld => ?_)
        · try dsimp only
          exact HSK.out _ HB4.out
        clear hK K
        try simp only [Act.put, List.setIfInBounds_toArray, List.set_cons_zero, List.set_cons_succ]
        refine wpAnyH_take (i := 7) (oi := ?_) (v := ?_) ?_ (by kernel_rfl) (by kernel_rfl) (by kernel_rfl) ?_ ?_ (by assumption) ?_
        rotate_left 2
        · simp only [List.getElem?_toArray, List.getElem?_cons_succ, List.getElem?_cons_zero]; rfl
        · exact fun _ _ _ h => h
        · first
            | (refine Or.inr ⟨?_, ?_⟩ <;> rfl)
            | (refine Or.inl ⟨?_, ?_⟩; · rfl
               intro w hSw; (try dsimp only at hSw); go_simp; (try with_reducible rfl); done)
        try simp only [Act.put, List.setIfInBounds_toArray, List.set_cons_zero, List.set_cons_succ]
        refine wpAnyH_take (i := 8) (oi := ?_) (v := ?_) ?_ (by kernel_rfl) (by kernel_rfl) (by kernel_rfl) ?_ ?_ (by assumption) ?_
        rotate_left 2
        · simp only [List.getElem?_toArray, List.getElem?_cons_succ, List.getElem?_cons_zero]; rfl
        · exact fun _ _ _ h => h
        · first
            | (refine Or.inr ⟨?_, ?_⟩ <;> rfl)
            | (refine Or.inl ⟨?_, ?_⟩; · rfl
               intro w hSw; (try dsimp only at hSw); go_simp; (try with_reducible rfl); done)
        try simp only [Act.put, List.setIfInBounds_toArray, List.set_cons_zero, List.set_cons_succ]
        refine wpAnyH_take (i := 9) (oi := ?_) (v := ?_) ?_ (by kernel_rfl) (by kernel_rfl) (by kernel_rfl) ?_ ?_ (by assumption) ?_
        rotate_left 2
        · simp only [List.getElem?_toArray, List.getElem?_cons_succ, List.getElem?_cons_zero]; rfl
        · exact fun _ _ _ h => h
        · first
            | (refine Or.inr ⟨?_, ?_⟩ <;> rfl)
            | (refine Or.inl ⟨?_, ?_⟩; · rfl
               intro w hSw; (try dsimp only at hSw); go_simp; (try with_reducible rfl); done)
        try simp only [Act.put, List.setIfInBounds_toArray, List.set_cons_zero, List.set_cons_succ]
        refine wpAnyH_ready (rs := [10]) (by kernel_rfl) (by simp) ?_
        refine AllReadyH.cons (o := ?_) ?_ (fun K hK => ?_) AllReadyH.nil
        rotate_left 1
        · simp only [List.getElem?_toArray, List.getElem?_cons_succ, List.getElem?_cons_zero]; rfl
        go_simp
        skip
        refine hK.out _ _ ?_ (fun hHeld => ?_)
        · try dsimp only
          exact HSK.out _ (HB4.out.alloc HB4.out.size _)
        clear hK K
        try simp only [Act.put, List.setIfInBounds_toArray, List.set_cons_zero, List.set_cons_succ]
        refine wpAnyH_ready (rs := [11]) (by kernel_rfl) (by simp) ?_
        refine AllReadyH.cons (o := ?_) ?_ (fun K hK => ?_) AllReadyH.nil
        rotate_left 1
        · simp only [List.getElem?_toArray, List.getElem?_cons_succ, List.getElem?_cons_zero]; rfl
        go_simp
        skip
        refine hK.out _ _ ?_ (fun hHeld => ?_)
        · try dsimp only
          exact HSK.out _ (HB4.out.alloc HB4.out.size _)
        clear hK K
        try simp only [Act.put, List.setIfInBounds_toArray, List.set_cons_zero, List.set_cons_succ]
        refine wpAnyH_take (i := 12) (oi := ?_) (v := ?_) ?_ (by kernel_rfl) (by kernel_rfl) (by kernel_rfl) ?_ ?_ (by assumption) ?_
        rotate_left 2
        · simp only [List.getElem?_toArray, List.getElem?_cons_succ, List.getElem?_cons_zero]; rfl
        · exact fun _ _ _ h => h
        · first
            | (refine Or.inr ⟨?_, ?_⟩ <;> rfl)
            | (refine Or.inl ⟨?_, ?_⟩; · rfl
               intro w hSw; (try dsimp only at hSw); go_simp; (try with_reducible rfl); done)
        try simp only [Act.put, List.setIfInBounds_toArray, List.set_cons_zero, List.set_cons_succ]
        refine wpAnyH_done (by kernel_rfl) ?_ _
        have HMz : Hid (BtM w (w4.alloc (.cells #[.int .i64 (stB q).n, .bool (stB q).i, .bool (stB q).o] 76)) s) := HM.out.below (HB4.out.alloc HB4.out.size _)
        clear HSK
        cases hok : ok
        · go_wp2_with fail
          go_roundw
          case rel => exact ⟨k + 1, by omega, by go_num, t, rfl, by omega, HMz⟩
          case measure => simp [intOf]; omega
        · go_wp2_with fail
          go_roundw
          case rel => exact ⟨k + 1, by omega, by go_num, _, rfl, by rw [ByteArray.size_append]; omega, HMz⟩
          case measure => simp [intOf]; omega
      · refine AllReadyH.cons (o := ?_) ?_ (fun K hK => ?_) ?_
        rotate_left 1
        · simp only [List.getElem?_toArray, List.getElem?_cons_succ, List.getElem?_cons_zero]; rfl
        · have HBA : Hid (Below wr.heap.size wr (wr.alloc (.cells #[.int .i64 0, .bool false, .bool false] 76)).drew) := (below_all wr (.cells #[.int .i64 0, .bool false, .bool false] 76)).drew
          go_simp
          skip
          refine hK.out _ _ ?_ (fun hHeld => ?_)
          · try dsimp only
            exact HSK.out _ HBA.out
          clear hK K
          try simp only [Act.put, List.setIfInBounds_toArray, List.set_cons_zero, List.set_cons_succ]
          have HXA : Hid (Bx (wr.alloc (.cells #[.int .i64 0, .bool false, .bool false] 76)).drew wr.heap.size 76 #[.int .i64 0, .bool false, .bool false]) := Bx.new wr _ _
          generalize (wr.alloc (.cells #[.int .i64 0, .bool false, .bool false] 76)).drew = WA at *
          refine wpAnyH_ready (rs := [6]) (by kernel_rfl) (by simp) ?_
          refine AllReadyH.cons (o := ?_) ?_ (fun K hK => ?_) AllReadyH.nil
          rotate_left 1
          · simp only [List.getElem?_toArray, List.getElem?_cons_succ, List.getElem?_cons_zero]; rfl
          go_simp
          go_at_call 91
          go_must (refine Calls.mono (HST.out _ _) ?_)
          rintro e w4 ⟨⟨q, ok, rfl⟩, hb⟩
          have HX4 := Lib.hid (HXA.out.below hb HXA.out.lt)
          have HB4 := Lib.hid (HBA.out.trans (hb.mono HBA.out.size))
          have hxc4 := HX4.out.cell
          have hxf4 := HX4.out.free
          clear hb
          refine hK.out _ _ ?_ (fun hHeld => ?_)
          · try dsimp only
            exact HSK.out _ HB4.out
          clear hK K
          try simp only [Act.put, List.setIfInBounds_toArray, List.set_cons_zero, List.set_cons_succ]
          refine wpAnyH_take (i := 7) (oi := ?_) (v := ?_) ?_ (by kernel_rfl) (by kernel_rfl) (by kernel_rfl) ?_ ?_ (by assumption) ?_
          rotate_left 2
          · simp only [List.getElem?_toArray, List.getElem?_cons_succ, List.getElem?_cons_zero]; rfl
          · exact fun _ _ _ h => h
          · first
              | (refine Or.inr ⟨?_, ?_⟩ <;> rfl)
              | (refine Or.inl ⟨?_, ?_⟩; · rfl
                 intro w hSw; (try dsimp only at hSw); go_simp; (try with_reducible rfl); done)
          try simp only [Act.put, List.setIfInBounds_toArray, List.set_cons_zero, List.set_cons_succ]
          refine wpAnyH_take (i := 8) (oi := ?_) (v := ?_) ?_ (by kernel_rfl) (by kernel_rfl) (by kernel_rfl) ?_ ?_ (by assumption) ?_
          rotate_left 2
          · simp only [List.getElem?_toArray, List.getElem?_cons_succ, List.getElem?_cons_zero]; rfl
          · exact fun _ _ _ h => h
          · first
              | (refine Or.inr ⟨?_, ?_⟩ <;> rfl)
              | (refine Or.inl ⟨?_, ?_⟩; · rfl
                 intro w hSw; (try dsimp only at hSw); go_simp; (try with_reducible rfl); done)
          try simp only [Act.put, List.setIfInBounds_toArray, List.set_cons_zero, List.set_cons_succ]
          refine wpAnyH_take (i := 9) (oi := ?_) (v := ?_) ?_ (by kernel_rfl) (by kernel_rfl) (by kernel_rfl) ?_ ?_ (by assumption) ?_
          rotate_left 2
          · simp only [List.getElem?_toArray, List.getElem?_cons_succ, List.getElem?_cons_zero]; rfl
          · exact fun _ _ _ h => h
          · first
              | (refine Or.inr ⟨?_, ?_⟩ <;> rfl)
              | (refine Or.inl ⟨?_, ?_⟩; · rfl
                 intro w hSw; (try dsimp only at hSw); go_simp; (try with_reducible rfl); done)
          try simp only [Act.put, List.setIfInBounds_toArray, List.set_cons_zero, List.set_cons_succ]
          refine wpAnyH_ready (rs := [11]) (by kernel_rfl) (by simp) ?_
          refine AllReadyH.cons (o := ?_) ?_ (fun K hK => ?_) AllReadyH.nil
          rotate_left 1
          · simp only [List.getElem?_toArray, List.getElem?_cons_succ, List.getElem?_cons_zero]; rfl
          go_simp
          skip
          refine hK.out _ _ ?_ (fun hHeld => ?_)
          · try dsimp only
            exact HSK.out _ (((HB4.out.setCell (Nat.le_refl _) _).setCell (Nat.le_refl _) _).setCell (Nat.le_refl _) _)
          clear hK K
          try simp only [Act.put, List.setIfInBounds_toArray, List.set_cons_zero, List.set_cons_succ]
          refine wpAnyH_take (i := 12) (oi := ?_) (v := ?_) ?_ (by kernel_rfl) (by kernel_rfl) (by kernel_rfl) ?_ ?_ (by assumption) ?_
          rotate_left 2
          · simp only [List.getElem?_toArray, List.getElem?_cons_succ, List.getElem?_cons_zero]; rfl
          · exact fun _ _ _ h => h
          · first
              | (refine Or.inr ⟨?_, ?_⟩ <;> rfl)
              | (refine Or.inl ⟨?_, ?_⟩; · rfl
                 intro w hSw; (try dsimp only at hSw); go_simp; (try with_reducible rfl); done)
          try simp only [Act.put, List.setIfInBounds_toArray, List.set_cons_zero, List.set_cons_succ]
          refine wpAnyH_done (by kernel_rfl) ?_ _
          have HMz : Hid (BtM w (((w4.setCell ⟨wr.heap.size, 0, none⟩ (.int .i64 (stB q).n)).setCell ⟨wr.heap.size, 1, none⟩ (.bool (stB q).i)).setCell ⟨wr.heap.size, 2, none⟩ (.bool (stB q).o)) s) := HM.out.below (((HB4.out.setCell (Nat.le_refl _) _).setCell (Nat.le_refl _) _).setCell (Nat.le_refl _) _)
          clear HSK hxc4 hxf4
          cases hok : ok
          · go_wp2_with fail
            go_roundw
            case rel => exact ⟨k + 1, by omega, by go_num, t, rfl, by omega, HMz⟩
            case measure => simp [intOf]; omega
          · go_wp2_with fail
            go_roundw
            case rel => exact ⟨k + 1, by omega, by go_num, _, rfl, by rw [ByteArray.size_append]; omega, HMz⟩
            case measure => simp [intOf]; omega
        · exact AllReadyH.nil
    · obtain rfl : k = 7 := by omega
      go_wp2_with fail
      go_ret
      exact ⟨⟨t, rfl, ht⟩, HM.out.bl⟩
end Go.Proofs.YtlkdmpfifpkpaaaGreatDoor
namespace Go.Proofs.YtlkdmpfifpkpaaaGreatDoor
open Go.RowKit

/-- a row of texts -/
def StC (w : World) (b n : Nat) (f : Nat → ByteArray) : Prop := ∀ k, k < n → w.cell? ⟨b, k, none⟩ = some (.string (f k))
theorem of_any (R m b n c : Nat) (f : Nat → ByteArray) (w : World) (hn : 1 ≤ n ∧ n ≤ 1000) (hm : m ≤ 100000) (hr : RdL w R m) (hb : b ≠ R) (hs : StC w b n f) (hbl : b < w.heap.size) :
    Calls Tryz.prog 53 #[.pointer (some ⟨R, 0, none⟩), .slice (some ⟨b, 0, none⟩) n c] w fun e w' => (∃ k, k < n ∧ e = .returned (.string (f k))) ∧ RdL w' R (m + 1) ∧ w.grownBy w' (some R) := by
  have HS := Lib.hid hs
  have HP := Lib.hid (pickN_any R m n w (by omega) (by omega) hr)
  clear hs hr
  go_enter Tryz.func53, Tryz.ntmps53
  go_wp2_with fail
  refine HP.out.mono ?_
  rintro e w1 ⟨k, rfl, hk, hr1, hg1⟩
  have hc : w1.cell? ⟨b, k, none⟩ = some (.string (f k)) := (gcell hg1 b k hbl hb).trans (HS.out k hk)
  have HR1 := Lib.hid hr1
  have HG1 := Lib.hid hg1
  have hki : (k : Int) < (n : Int) := by omega
  clear hr1 hg1
  go_wp2_with fail
  go_ret
  exact ⟨⟨k, hk, rfl⟩, HR1.out, HG1.out⟩
/-- the boxes of l91Events -/
structure EvM (w wr : World) (R q M : Nat) : Prop where
  box : Bx wr w.heap.size 76 #[.int .i64 (stB q).n, .bool (stB q).i, .bool (stB q).o]
  rd : RdL wr R M
  hR : R < w.heap.size
  gr : w.grownBy wr (some R)
section
variable {w wr w' : World} {R q M M' : Nat}
theorem EvM.lt (h : EvM w wr R q M) : w.heap.size < wr.heap.size := h.box.lt
theorem EvM.below (h : EvM w wr R q M) (hb : Below wr.heap.size wr w') : EvM w w' R q M := ⟨h.box.below hb h.box.lt, h.rd.keep hb, h.hR, grownBy_trans h.gr (grownBy_below hb _)⟩
theorem EvM.drew (h : EvM w wr R q M) : EvM w wr.drew R q M := h.below (Below.refl _ _).drew
theorem EvM.pick (h : EvM w wr R q M) (hr : RdL w' R M') (hg : wr.grownBy w' (some R)) : EvM w w' R q M' := by
  have a1 := h.hR
  exact ⟨h.box.kept hg (by omega), hr, h.hR, grownBy_trans h.gr hg⟩
theorem EvM.next (h : EvM w wr R q M) (j : Nat) : EvM w (((wr.setCell ⟨w.heap.size, 0, none⟩ (.int .i64 (stB j).n)).setCell ⟨w.heap.size, 1, none⟩ (.bool (stB j).i)).setCell ⟨w.heap.size, 2, none⟩ (.bool (stB j).o)) R j M := by
  have a1 := h.hR
  refine ⟨?_, ((h.rd.set (by omega)).set (by omega)).set (by omega), a1, grow_new (grow_new (grow_new h.gr (grownBy_setCell _ _ _ _) (Nat.le_refl _)) (grownBy_setCell _ _ _ _) (Nat.le_refl _)) (grownBy_setCell _ _ _ _) (Nat.le_refl _)⟩
  have := ((h.box.set 0 (.int .i64 (stB j).n)).set 1 (.bool (stB j).i)).set 2 (.bool (stB j).o)
  simpa using this
end
/-- the texts of the choice -/
def exF (a b c : ByteArray) (k : Nat) : ByteArray := if k = 0 then a else if k = 1 then b else c
theorem stC_three (w : World) (a b c : ByteArray) (t : TypeId) : StC (w.alloc (.cells #[.string a, .string b, .string c] t)) w.heap.size 3 (exF a b c) := fun k hk => by
  match k, hk with
  | 0, _ => exact box_new _ _ _ 0
  | 1, _ => exact box_new _ _ _ 1
  | 2, _ => exact box_new _ _ _ 2
set_option linter.unusedSimpArgs false in
set_option maxRecDepth 100000 in
set_option maxHeartbeats 4000000 in
theorem l91Events_any (R m s n : Nat) (w : World) (hm : m ≤ 10000) (hn : n ≤ 1000) (hr : RdL w R m) :
    Calls Tryz.prog 65 #[.pointer (some ⟨R, 0, none⟩), .agg #[.int .i64 (stB s).n, .bool (stB s).i, .bool (stB s).o], .int .i64 n] w fun e w' => (∃ t : ByteArray, e = .returned (.string t) ∧ t.size ≤ n + 2) ∧ RdL w' R (m + n + 2) ∧ w.grownBy w' (some R) := by
  have HM0 : Hid (EvM w (w.alloc (.cells #[.int .i64 (stB s).n, .bool (stB s).i, .bool (stB s).o] 76)) R s m) := ⟨Bx.new _ _ _, hr.alloc _, hr.lt, grownBy_below (below_all _ _) _⟩
  clear hr
  go_enter Tryz.func65, Tryz.ntmps65
  go_wp2_with fail
  go_loopw [7, 8, 9, 10] (fun o i _ _ wr => ∃ k : Nat, k ≤ n ∧ i = .int .i64 k ∧ ∃ (t : ByteArray) (q : Nat), o = .string t ∧ t.size ≤ k ∧ Hid (EvM w wr R q (m + k))) (fun _ i _ _ _ => n - (intOf i).toNat)
  case atStart => exact ⟨0, Nat.zero_le _, rfl, ⟨#[]⟩, s, rfl, Nat.le_refl _, HM0⟩
  case round =>
    obtain ⟨k, hk, rfl, t, q, rfl, ht, HM⟩ := hrel
    by_cases hlt : k < n
    · have hbc := HM.out.box.cell
      have hlt' : (k : Int) < (n : Int) := by omega
      go_wp2_with fail
      refine (specNext_some q _).mono ?_
      rintro e w2 ⟨⟨u, rfl, hu⟩, hb⟩
      have HM2 := Lib.hid (HM.out.below hb)
      clear hb hbc
      rcases Nat.eq_zero_or_pos u.size with h0 | h0
      · have hu1 : u.toList = [] := by
          rw [ByteArray.toList_eq]
          exact List.length_eq_zero_iff.1 (by simpa using h0)
        have hu2 : (u.toList == []) = true := by rw [hu1]; rfl
        have hu3 : u.toList.isEmpty = true := by rw [hu1]; rfl
        clear h0
        go_wp2_with fail
        go_ret
        exact ⟨⟨t, rfl, by omega⟩, HM2.out.rd.mono (by omega), HM2.out.gr⟩
      · have hne : u.toList ≠ [] := by
          rw [ByteArray.toList_eq]
          intro e
          have h2 : u.data.toList.length = 0 := by rw [e]; rfl
          have h3 : u.data.toList.length = u.size := by simp
          omega
        have hu2 : (u.toList == []) = false := by simpa using hne
        have hu3 : u.toList.isEmpty = false := by simpa using hne
        have HPK := Lib.hid (pickN_any R (m + k) u.size w2 (by omega) (by omega) HM2.out.rd)
        clear hne
        go_wp2_with fail
        refine HPK.out.mono ?_
        rintro e w3 ⟨j, rfl, hj, hr3, hg3⟩
        have HM3 := Lib.hid (HM2.out.pick hr3 hg3)
        clear hr3 hg3 HPK hu2 hu3
        have hji : (j : Int) < (u.size : Int) := by omega
        have hji2 : (j : Int) + 1 ≤ (u.size : Int) := by omega
        have hes := ex_size u j
        have hss : t.size + (u.extract j (j + 1)).size ≤ maxLen := by unfold maxLen; omega
        have hbc := HM3.out.box.cell
        have hbf := HM3.out.box.free
        have hlz := HM3.out.lt
        have HST : Hid (∀ W l, Calls Tryz.prog 91 #[.agg #[.int .i64 (stB q).n, .bool (stB q).i, .bool (stB q).o], .string l] W fun e w' => (∃ q' ok, e = .returned (.tuple #[.agg #[.int .i64 (stB q').n, .bool (stB q').i, .bool (stB q').o], .bool ok])) ∧ Below W.heap.size W w') := fun W l => by
          refine (specStep_any _ _ _ l W).mono fun e w' ⟨h1, h2⟩ => ⟨?_, h2⟩
          obtain ⟨q', _, hq⟩ := bsV_any (bsI (stB q).n (stB q).i (stB q).o l)
          rw [hq] at h1
          exact ⟨q', _, h1⟩
        go_wp2_with fail
        have hw1 : IntKind.i64.wrap ((j : Int) + 1) = (j : Int) + 1 := IntWalk.i64_in _ (by omega)
        have hw2 : ((j : Int) + 1).toNat = j + 1 := by omega
        have hw3 : (0 : Int) ≤ (j : Int) + 1 := by omega
        have hw4 : (j : Int) ≤ (j : Int) + 1 := by omega
        refine wp_region_held_drew (S := (fun _ => True)) (by kernel_rfl) trivial (fun hHeld => ?_)
        refine wpAnyH_take (i := 1) (oi := ?_) (v := ?_) ?_ (by kernel_rfl) (by kernel_rfl) (by kernel_rfl) ?_ ?_ (by assumption) ?_
        rotate_left 2
        · simp only [List.getElem?_toArray, List.getElem?_cons_succ, List.getElem?_cons_zero]; rfl
        · exact fun _ _ _ h => h
        · first
            | (refine Or.inr ⟨?_, ?_⟩ <;> rfl)
            | (refine Or.inl ⟨?_, ?_⟩; · rfl
               intro w hSw; (try dsimp only at hSw); go_simp; (try with_reducible rfl); done)
        try simp only [Act.put, List.setIfInBounds_toArray, List.set_cons_zero, List.set_cons_succ]
        refine wpAnyH_take (i := 2) (oi := ?_) (v := ?_) ?_ (by kernel_rfl) (by kernel_rfl) (by kernel_rfl) ?_ ?_ (by assumption) ?_
        rotate_left 2
        · simp only [List.getElem?_toArray, List.getElem?_cons_succ, List.getElem?_cons_zero]; rfl
        · exact fun _ _ _ h => h
        · first
            | (refine Or.inr ⟨?_, ?_⟩ <;> rfl)
            | (refine Or.inl ⟨?_, ?_⟩; · rfl
               intro w hSw; (try dsimp only at hSw); go_simp; (try with_reducible rfl); done)
        try simp only [Act.put, List.setIfInBounds_toArray, List.set_cons_zero, List.set_cons_succ]
        refine wpAnyH_take (i := 3) (oi := ?_) (v := ?_) ?_ (by kernel_rfl) (by kernel_rfl) (by kernel_rfl) ?_ ?_ (by assumption) ?_
        rotate_left 2
        · simp only [List.getElem?_toArray, List.getElem?_cons_succ, List.getElem?_cons_zero]; rfl
        · exact fun _ _ _ h => h
        · first
            | (refine Or.inr ⟨?_, ?_⟩ <;> rfl)
            | (refine Or.inl ⟨?_, ?_⟩; · rfl
               intro w hSw; (try dsimp only at hSw); go_simp; (try with_reducible rfl); done)
        try simp only [Act.put, List.setIfInBounds_toArray, List.set_cons_zero, List.set_cons_succ]
        refine wpAnyH_take (i := 4) (oi := ?_) (v := ?_) ?_ (by kernel_rfl) (by kernel_rfl) (by kernel_rfl) ?_ ?_ (by assumption) ?_
        rotate_left 2
        · simp only [List.getElem?_toArray, List.getElem?_cons_succ, List.getElem?_cons_zero]; rfl
        · exact fun _ _ _ h => h
        · first
            | (refine Or.inr ⟨?_, ?_⟩ <;> rfl)
            | (refine Or.inl ⟨?_, ?_⟩; · rfl
               intro w hSw; (try dsimp only at hSw); go_simp; (try with_reducible rfl); done)
        try simp only [Act.put, List.setIfInBounds_toArray, List.set_cons_zero, List.set_cons_succ]
        refine wpAnyH_take (i := 5) (oi := ?_) (v := ?_) ?_ (by kernel_rfl) (by kernel_rfl) (by kernel_rfl) ?_ ?_ (by assumption) ?_
        rotate_left 2
        · simp only [List.getElem?_toArray, List.getElem?_cons_succ, List.getElem?_cons_zero]; rfl
        · exact fun _ _ _ h => h
        · first
            | (refine Or.inr ⟨?_, ?_⟩ <;> rfl)
            | (refine Or.inl ⟨?_, ?_⟩; · rfl
               intro w hSw; (try dsimp only at hSw); go_simp; (try with_reducible rfl); done)
        try simp only [Act.put, List.setIfInBounds_toArray, List.set_cons_zero, List.set_cons_succ]
        clear hw1 hw2 hw3 hw4
        refine wpAnyH_ready (rs := [0]) (by kernel_rfl) (by simp) ?_
        refine AllReadyH.cons (o := ?_) ?_ (fun K hK => ?_) AllReadyH.nil
        rotate_left 1
        · simp only [List.getElem?_toArray, List.getElem?_cons_succ, List.getElem?_cons_zero]; rfl
        go_simp
        skip
        refine hK.out _ _ ?_ (fun hHeld => ?_)
        · exact trivial
        clear hK K
        try simp only [Act.put, List.setIfInBounds_toArray, List.set_cons_zero, List.set_cons_succ]
        refine wpAnyH_ready (rs := [6]) (by kernel_rfl) (by simp) ?_
        refine AllReadyH.cons (o := ?_) ?_ (fun K hK => ?_) AllReadyH.nil
        rotate_left 1
        · simp only [List.getElem?_toArray, List.getElem?_cons_succ, List.getElem?_cons_zero]; rfl
        go_simp
        go_at_call 91
        go_must (refine Calls.mono (HST.out _ _) ?_)
        rintro e w4 ⟨⟨q', ok, rfl⟩, hb⟩
        have HM4 := Lib.hid (HM3.out.drew.below hb)
        have hbc4 := HM4.out.box.cell
        have hbf4 := HM4.out.box.free
        clear hb hbc hbf
        refine hK.out _ _ ?_ (fun hHeld => ?_)
        · exact trivial
        clear hK K
        try simp only [Act.put, List.setIfInBounds_toArray, List.set_cons_zero, List.set_cons_succ]
        refine wpAnyH_take (i := 7) (oi := ?_) (v := ?_) ?_ (by kernel_rfl) (by kernel_rfl) (by kernel_rfl) ?_ ?_ (by assumption) ?_
        rotate_left 2
        · simp only [List.getElem?_toArray, List.getElem?_cons_succ, List.getElem?_cons_zero]; rfl
        · exact fun _ _ _ h => h
        · first
            | (refine Or.inr ⟨?_, ?_⟩ <;> rfl)
            | (refine Or.inl ⟨?_, ?_⟩; · rfl
               intro w hSw; (try dsimp only at hSw); go_simp; (try with_reducible rfl); done)
        try simp only [Act.put, List.setIfInBounds_toArray, List.set_cons_zero, List.set_cons_succ]
        refine wpAnyH_take (i := 8) (oi := ?_) (v := ?_) ?_ (by kernel_rfl) (by kernel_rfl) (by kernel_rfl) ?_ ?_ (by assumption) ?_
        rotate_left 2
        · simp only [List.getElem?_toArray, List.getElem?_cons_succ, List.getElem?_cons_zero]; rfl
        · exact fun _ _ _ h => h
        · first
            | (refine Or.inr ⟨?_, ?_⟩ <;> rfl)
            | (refine Or.inl ⟨?_, ?_⟩; · rfl
               intro w hSw; (try dsimp only at hSw); go_simp; (try with_reducible rfl); done)
        try simp only [Act.put, List.setIfInBounds_toArray, List.set_cons_zero, List.set_cons_succ]
        refine wpAnyH_take (i := 9) (oi := ?_) (v := ?_) ?_ (by kernel_rfl) (by kernel_rfl) (by kernel_rfl) ?_ ?_ (by assumption) ?_
        rotate_left 2
        · simp only [List.getElem?_toArray, List.getElem?_cons_succ, List.getElem?_cons_zero]; rfl
        · exact fun _ _ _ h => h
        · first
            | (refine Or.inr ⟨?_, ?_⟩ <;> rfl)
            | (refine Or.inl ⟨?_, ?_⟩; · rfl
               intro w hSw; (try dsimp only at hSw); go_simp; (try with_reducible rfl); done)
        try simp only [Act.put, List.setIfInBounds_toArray, List.set_cons_zero, List.set_cons_succ]
        have HM5 := Lib.hid (HM4.out.next q')
        refine wpAnyH_ready (rs := [10]) (by kernel_rfl) (by simp) ?_
        refine AllReadyH.cons (o := ?_) ?_ (fun K hK => ?_) AllReadyH.nil
        rotate_left 1
        · simp only [List.getElem?_toArray, List.getElem?_cons_succ, List.getElem?_cons_zero]; rfl
        go_simp
        skip
        refine hK.out _ _ ?_ (fun hHeld => ?_)
        · exact trivial
        clear hK K
        try simp only [Act.put, List.setIfInBounds_toArray, List.set_cons_zero, List.set_cons_succ]
        refine wpAnyH_done (by kernel_rfl) ?_ _
        go_wp2_with fail
        go_roundw
        case rel => exact ⟨k + 1, by omega, by go_num, _, q', rfl, by rw [ByteArray.size_append]; omega, HM5⟩
        case measure => simp [intOf]; omega
    · obtain rfl : k = n := by omega
      go_wp2_with fail
      refine (pickN_any R (m + k) 16 _ (by omega) (by omega) HM.out.rd).mono ?_
      rintro e w3 ⟨v, rfl, hv, hr3, hg3⟩
      have HM3 := Lib.hid (HM.out.pick hr3 hg3)
      clear hr3 hg3
      by_cases hv0 : v = 0
      · subst hv0
        have hlz := HM3.out.lt
        have hRl := HM3.out.hR
        have HOF : Hid (Calls Tryz.prog 53 #[.pointer (some ⟨R, 0, none⟩), .slice (some ⟨w3.heap.size, 0, none⟩) 3 3] (w3.alloc (.cells #[.string ⟨#[120]⟩, .string ⟨#[101]⟩, .string ⟨#[97, 97]⟩] 9)) fun e w' => (∃ k, k < 3 ∧ e = .returned (.string (exF ⟨#[120]⟩ ⟨#[101]⟩ ⟨#[97, 97]⟩ k))) ∧ RdL w' R (m + k + 1 + 1) ∧ (w3.alloc (.cells #[.string ⟨#[120]⟩, .string ⟨#[101]⟩, .string ⟨#[97, 97]⟩] 9)).grownBy w' (some R)) :=
          of_any R (m + k + 1) w3.heap.size 3 3 _ _ (by omega) (by omega) (HM3.out.rd.alloc _) (by omega) (stC_three w3 _ _ _ _) (by simp)
        have HG3 : Hid (w.grownBy (w3.alloc (.cells #[.string ⟨#[120]⟩, .string ⟨#[101]⟩, .string ⟨#[97, 97]⟩] 9)) (some R)) := grownBy_trans HM3.out.gr (grownBy_below (below_all _ _) _)
        go_wp2_with fail
        refine HOF.out.mono ?_
        rintro e w4 ⟨⟨j, hj, rfl⟩, hr4, hg4⟩
        have HR4 := Lib.hid hr4
        have HG4 := Lib.hid (grownBy_trans HG3.out hg4)
        have hxs : (exF ⟨#[120]⟩ ⟨#[101]⟩ ⟨#[97, 97]⟩ j).size ≤ 2 := by
          unfold exF
          split
          · show 1 ≤ 2; omega
          · split
            · show 1 ≤ 2; omega
            · show 2 ≤ 2; omega
        generalize exF ⟨#[120]⟩ ⟨#[101]⟩ ⟨#[97, 97]⟩ j = x at *
        have hss : t.size + x.size ≤ maxLen := by unfold maxLen; omega
        clear hr4 hg4
        go_wp2_with fail
        go_ret
        exact ⟨⟨_, rfl, by rw [ByteArray.size_append]; omega⟩, HR4.out.mono (by omega), HG4.out⟩
      · have hv1 : ((v : Int) == 0) = false := by simp; omega
        clear hv0
        go_wp2_with fail
        go_ret
        exact ⟨⟨t, rfl, by omega⟩, HM3.out.rd.mono (by omega), HM3.out.gr⟩
end Go.Proofs.YtlkdmpfifpkpaaaGreatDoor
namespace Go.Proofs.YtlkdmpfifpkpaaaGreatDoor
open Go.RowKit

theorem l91Legal_any (R m : Nat) (w : World) (hm : m ≤ 5000) (hr : RdL w R m) :
    Calls Tryz.prog 50 #[.pointer (some ⟨R, 0, none⟩)] w fun e w' => (∃ t : ByteArray, e = .returned (.string t) ∧ t.size ≤ 33) ∧ RdL w' R (m + 40) ∧ w.grownBy w' (some R) := by
  have HEV : Hid (∀ (m n : Nat) W, m ≤ 10000 → n ≤ 1000 → RdL W R m → Calls Tryz.prog 65 #[.pointer (some ⟨R, 0, none⟩), .agg #[.int .i64 0, .bool false, .bool false], .int .i64 n] W fun e w' => (∃ t : ByteArray, e = .returned (.string t) ∧ t.size ≤ n + 2) ∧ RdL w' R (m + n + 2) ∧ W.grownBy w' (some R)) := fun m n W h1 h2 h3 => l91Events_any R m 0 n W h1 h2 h3
  have HP := Lib.hid (pickN_any R m 30 w (by omega) (by omega) hr)
  clear hr
  go_enter Tryz.func50, Tryz.ntmps50
  go_wp2_with fail
  refine HP.out.mono ?_
  rintro e w1 ⟨v, rfl, hv, hr1, hg1⟩
  have HR1 := Lib.hid hr1
  have HG1 := Lib.hid hg1
  clear hr1 hg1
  by_cases hv0 : v = 0
  · subst hv0
    have HE := Lib.hid (HEV.out (m + 1) 31 w1 (by omega) (by omega) HR1.out)
    go_wp2_with fail
    refine HE.out.mono ?_
    rintro e w2 ⟨⟨t, rfl, ht⟩, hr2, hg2⟩
    have HR2 := Lib.hid hr2
    have HG2 := Lib.hid (grownBy_trans HG1.out hg2)
    clear hr2 hg2
    go_wp2_with fail
    go_ret
    exact ⟨⟨t, rfl, by omega⟩, HR2.out.mono (by omega), HG2.out⟩
  · have hv1 : ((v : Int) == 0) = false := by simp; omega
    clear hv0
    go_wp2_with fail
    refine (pickN_any R (m + 1) 16 _ (by omega) (by omega) HR1.out).mono ?_
    rintro e w2 ⟨n, rfl, hn, hr2, hg2⟩
    have HR2 := Lib.hid hr2
    have HG2 := Lib.hid (grownBy_trans HG1.out hg2)
    clear hr2 hg2
    go_wp2_with fail
    refine (HEV.out (m + 1 + 1) n w2 (by omega) (by omega) HR2.out).mono ?_
    rintro e w3 ⟨⟨t, rfl, ht⟩, hr3, hg3⟩
    have HR3 := Lib.hid hr3
    have HG3 := Lib.hid (grownBy_trans HG2.out hg3)
    clear hr3 hg3
    go_wp2_with fail
    go_ret
    exact ⟨⟨t, rfl, by omega⟩, HR3.out.mono (by omega), HG3.out⟩
/-- a row of notes of its own -/
def OwnN (w : World) (g cap : Nat) (ns : List (Int × ByteArray)) : Prop := Own w g cap ns.length 2 155 (mvF (nM ns) (nL ns))
theorem OwnN.nt {w : World} {g cap : Nat} {ns : List (Int × ByteArray)} (h : OwnN w g cap ns) : NtC w g 0 ns := MvsC.of_own h
theorem OwnN.ext {w : World} {g cap : Nat} {ns : List (Int × ByteArray)} (h : OwnN w g cap ns) (z : Int × ByteArray) : Own w g cap ns.length 2 155 (mvF (nM (ns ++ [z])) (nL (ns ++ [z]))) :=
  Own.congr h (mvF_congr (fun _ hk => (nM_old (z := z) hk).1.symm) (fun _ hk => (nM_old (z := z) hk).2.symm))
theorem ntF_new (ns : List (Int × ByteArray)) (z : Int × ByteArray) : ∀ j, j < 2 → [Value.int .i64 z.1, .string z.2][j]? = some (mvF (nM (ns ++ [z])) (nL (ns ++ [z])) (ns.length * 2 + j)) := fun j hj => by
  match j, hj with
  | 0, _ => unfold mvF; rw [if_pos (by omega), show (ns.length * 2 + 0) / 2 = ns.length by omega, nM_new.1]; rfl
  | 1, _ => unfold mvF; rw [if_neg (by omega), show (ns.length * 2 + 1) / 2 = ns.length by omega, nM_new.2]; rfl
/-- the first note with another minute, another letter -/
def set0 (ns : List (Int × ByteArray)) (a : Int) (l : ByteArray) : List (Int × ByteArray) := ns.set 0 (a, l)
theorem set0_len (ns : List (Int × ByteArray)) (a : Int) (l : ByteArray) : (set0 ns a l).length = ns.length := by simp [set0]
theorem set0_at {ns : List (Int × ByteArray)} (h : 0 < ns.length) (a : Int) (l : ByteArray) (i : Nat) : nM (set0 ns a l) i = upd (nM ns) 0 a i ∧ nL (set0 ns a l) i = upd (nL ns) 0 l i := by
  unfold nM nL set0 upd
  by_cases h0 : i = 0
  · subst h0
    simp [h]
  · rw [if_neg h0, if_neg h0, List.getElem?_set_ne (by omega)]
    exact ⟨rfl, rfl⟩
theorem OwnN.set0 {w : World} {g cap : Nat} {ns : List (Int × ByteArray)} (h : OwnN w g cap ns) (h0 : 0 < ns.length) (a : Int) (l : ByteArray) : OwnN ((w.setCell ⟨g, 0, none⟩ (.int .i64 a)).setCell ⟨g, 1, none⟩ (.string l)) g cap (Go.Proofs.YtlkdmpfifpkpaaaGreatDoor.set0 ns a l) := by
  have h2 := Own.setMv h 0 a l
  unfold OwnN
  rw [set0_len]
  exact Own.congr h2 (mvF_congr (fun i _ => (set0_at h0 a l i).1.symm) (fun i _ => (set0_at h0 a l i).2.symm))
theorem OwnN.setM {w : World} {g cap : Nat} {ns : List (Int × ByteArray)} (h : OwnN w g cap ns) (h0 : 0 < ns.length) (a : Int) : OwnN (w.setCell ⟨g, 0, none⟩ (.int .i64 a)) g cap (Go.Proofs.YtlkdmpfifpkpaaaGreatDoor.set0 ns a (nL ns 0)) := by
  unfold OwnN
  rw [set0_len]
  refine (Own.set h 0 (.int .i64 a)).congr fun i _ => ?_
  rw [mvF_congr (n := i + 1) (M' := upd (nM ns) 0 a) (L' := upd (nL ns) 0 (nL ns 0)) (fun k _ => (set0_at h0 a (nL ns 0) k).1) (fun k _ => (set0_at h0 a (nL ns 0) k).2) i (by omega), ← mvF_upd (M := nM ns) (L := nL ns) (k := 0) (a := a) (b := nL ns 0) i]
  by_cases e : i = 1
  · subst e; rfl
  · rw [if_neg (show ¬ i = 0 * 2 + 1 by omega)]
/-- all notes of a list are small -/
def SmN (ns : List (Int × ByteArray)) : Prop := ∀ z, z ∈ ns → (-1 ≤ z.1 ∧ z.1 ≤ 2001) ∧ z.2.size ≤ 2
theorem SmN.set0 {ns : List (Int × ByteArray)} (h : SmN ns) {a : Int} {l : ByteArray} (h1 : -1 ≤ a ∧ a ≤ 2001) (h2 : l.size ≤ 2) : SmN (Go.Proofs.YtlkdmpfifpkpaaaGreatDoor.set0 ns a l) := fun y hy => by
  rcases List.mem_or_eq_of_mem_set hy with q | q
  · exact h y q
  · rw [q]; exact ⟨h1, h2⟩
theorem SmN.at {ns : List (Int × ByteArray)} (h : SmN ns) {i : Nat} (hi : i < ns.length) : (-1 ≤ nM ns i ∧ nM ns i ≤ 2001) ∧ (nL ns i).size ≤ 2 := by
  rw [nM_at hi, nL_at hi]
  exact h _ (List.getElem_mem hi)
/-- between two rounds of l92Notes -/
structure NsI (w wr : World) (R g cap M : Nat) (ns : List (Int × ByteArray)) : Prop where
  ow : OwnN wr g cap ns
  gz : w.heap.size ≤ g
  sm : SmN ns
  rd : RdL wr R M
  hR : R < w.heap.size
  gr : w.grownBy wr (some R)
theorem NsI.pick {w wr w' : World} {R g cap M M' : Nat} {ns : List (Int × ByteArray)} (h : NsI w wr R g cap M ns) (hr : RdL w' R M') (hg : wr.grownBy w' (some R)) : NsI w w' R g cap M' ns := by
  have a1 := h.hR
  have a2 := h.gz
  exact ⟨Own.kept h.ow hg (by simp; omega), h.gz, h.sm, hr, h.hR, grownBy_trans h.gr hg⟩
end Go.Proofs.YtlkdmpfifpkpaaaGreatDoor
namespace Go.Proofs.YtlkdmpfifpkpaaaGreatDoor
open Go.RowKit

def RuRes (ns : List (Int × ByteArray)) (ok : Bool) (w : World) (e : Ending) (w' : World) : Prop :=
  (∃ g cap, e = .returned (.tuple #[.slice (some ⟨g, 0, none⟩) (List.length ns) cap, .bool ok]) ∧ OwnN w' g cap ns ∧ w.heap.size ≤ g) ∧ Below w.heap.size w w'
end Go.Proofs.YtlkdmpfifpkpaaaGreatDoor
namespace Go.Proofs.YtlkdmpfifpkpaaaGreatDoor
open Go.RowKit

/-- append of one element in a region that draws its order -/
theorem step_pushR {P : Program} {w : World} {t e : TypeId} {z : Value} {s bytes : Nat} (he : Elem P t e z s bytes) {ops : Array Oper} {o : Oper} {a : Act} {K : Act → World → Prop} {Q : Exit → Act → World → Prop} {E : Prop} (hgd : o.guard = none) (so xo : Operand)
    (ho : o.op = .call { callee := .builtin .append, args := #[so, xo], argTypes := #[t, t] }) {g cap n : Nat} {f : Nat → Value} (hown : Own w g cap n s e f) (hs : a.eval so = .slice (some ⟨g, 0, none⟩) n cap) (vs : List Value)
    (hx : a.eval xo = .slice (some ⟨w.heap.size, 0, none⟩) 1 1) (hnew : ∀ j, j < s → vs[j]? = some (f (n * s + j))) (h1 : ∀ j, j < s → (f (n * s + j)).oneCell' = true)
    (h63 : n + 1 ≤ maxLen) (hbytes : (n + 1) * bytes ≤ 140737488355328)
    (h : ∀ g' cap' w', Own w' g' cap' (n + 1) s e f → w.grownBy w' (some g) → ((g' = g ∧ cap' = cap) ∨ w.heap.size < g') → K (a.put o.dst (.slice (some ⟨g', 0, none⟩) (n + 1) cap')) w') : if Region.wanted o (yielded ops a.tmps) = true then Oper.wp P o a (w.alloc (.cells vs.toArray e)) K Q else E := by
  refine step_app he hgd so xo ho (hown.alloc _) hs ⟨w.heap.size, 0, none⟩ 1 1 hx (fun j hj => ?_) (fun j hj => h1 j (by omega)) h63 hbytes (fun g' cap' w' h2 h3 h4 => ?_)
  · rw [addr_add, Nat.zero_add]
    have hh : (w.alloc (.cells vs.toArray e)).heap[w.heap.size]? = some (.cells vs.toArray e (0, 0)) := heap_alloc_new _ _
    simp only [World.cell?, hh]
    simpa using hnew j (by omega)
  · refine h g' cap' w' h2 (grownBy_trans (World.grownBy_alloc w _ _) h3) ?_
    rcases h4 with h4 | h4
    · exact .inl h4
    · right
      have : (w.alloc (.cells vs.toArray e)).heap.size = w.heap.size + 1 := by simp
      omega
set_option linter.unusedSimpArgs false in
theorem regVal_any (b off c : Nat) (ns : List (Int × ByteArray)) (w : World) (hn : ns.length ≤ 1000000000000) (hc : NtC w b off ns) :
    Calls Tryz.prog 149 #[.slice (some ⟨b, off, none⟩) ns.length c] w fun e w' => e = .returned (.bool (rgV ns)) ∧ Below w.heap.size w w' := by
  have HSO := Lib.hid (registerOf_any b off c ns w hn hc)
  clear hc
  go_enter Tryz.func149, Tryz.ntmps149
  go_wp2_with fail
  refine HSO.out.mono ?_
  rintro e w1 ⟨⟨r, rfl, hr⟩, hb1⟩
  have HB := Lib.hid hb1
  clear hr hb1
  go_wp2_with fail
  go_ret
  exact ⟨rfl, HB.out⟩
/-- the notes of a section's moves, before a place -/
def roF (ms : List (Int × ByteArray)) (ts : Nat → Int) (k : Int) : Nat → List (Int × ByteArray)
  | 0 => []
  | i + 1 => if mvM ms i = k then roF ms ts k i ++ [(ts i, mvS ms i)] else roF ms ts k i
theorem roF_len (ms : List (Int × ByteArray)) (ts : Nat → Int) (k : Int) : ∀ i, (roF ms ts k i).length ≤ i
  | 0 => Nat.le_refl _
  | i + 1 => by
    have := roF_len ms ts k i
    simp only [roF]
    split
    · simp; omega
    · omega
def roL (ms : List (Int × ByteArray)) (ts : Nat → Int) (k : Int) : List (Int × ByteArray) := if rgV (roF ms ts k ms.length) = true then roF ms ts k ms.length else []
/-- between two rounds of RegisterOf -/
structure RoI (w wr : World) (g cap : Nat) (xs : List (Int × ByteArray)) : Prop where
  ow : OwnN wr g cap xs
  gz : w.heap.size ≤ g
  bl : Below w.heap.size w wr
theorem RoI.keep {w wr wa : World} {g cap : Nat} {xs : List (Int × ByteArray)} (h : RoI w wr g cap xs) (hb : Below wr.heap.size wr wa) : RoI w wa g cap xs :=
  ⟨Own.below h.ow hb (Own.lt h.ow), h.gz, h.bl.trans (hb.mono h.bl.size)⟩
theorem RoI.push {w wr wa : World} {g cap g' c' : Nat} {xs : List (Int × ByteArray)} {z : Int × ByteArray} (h : RoI w wr g cap xs) (HA : Own wa g' c' (xs.length + 1) 2 155 (mvF (nM (xs ++ [z])) (nL (xs ++ [z])))) (hgr : wr.grownBy wa (some g)) (hd : g' = g ∨ wr.heap.size ≤ g') :
    RoI w wa g' c' (xs ++ [z]) := by
  have hgz := h.gz
  have hbs := h.bl.size
  refine ⟨?_, ?_, h.bl.trans (below_of_grown hgr hgz hbs)⟩
  · unfold OwnN
    rw [List.length_append]
    exact HA
  · rcases hd with q | q <;> omega
set_option linter.unusedSimpArgs false in
set_option maxRecDepth 100000 in
set_option maxHeartbeats 4000000 in
theorem regOf_any (bm om cm bt ot ct : Nat) (ms : List (Int × ByteArray)) (ts : Nat → Int) (k : Int) (w : World) (hn : ms.length ≤ 1000000) (hm : MvsC w bm om ms.length (mvM ms) (mvS ms)) (ht : IC w bt ot ms.length ts) :
    Calls Tryz.prog 128 #[.slice (some ⟨bm, om, none⟩) ms.length cm, .slice (some ⟨bt, ot, none⟩) ms.length ct, .int .i64 k] w (RuRes (roL ms ts k) (rgV (roF ms ts k ms.length)) w) := by
  have HM : Hid (∀ W, Below w.heap.size w W → MvsC W bm om ms.length (mvM ms) (mvS ms)) := fun W h => hm.keep h
  have HT : Hid (∀ W, Below w.heap.size w W → IC W bt ot ms.length ts) := fun W h => ht.keep h
  have HI0 : Hid (RoI w (w.alloc (.cells #[] 155)) w.heap.size 0 []) := ⟨own_empty _ _ _ _, Nat.le_refl _, below_all _ _⟩
  clear hm ht
  go_enter Tryz.func128, Tryz.ntmps128
  go_wp2_with fail
  go_loopw [8, 9, 10, 20] (fun o _ _ i wr => ∃ j g cap : Nat, j ≤ ms.length ∧ i = .int .i64 j ∧ o = .slice (some ⟨g, 0, none⟩) (roF ms ts k j).length cap ∧ Hid (RoI w wr g cap (roF ms ts k j))) (fun _ _ _ i _ => ms.length - (intOf i).toNat)
  case atStart => exact ⟨0, w.heap.size, 0, Nat.zero_le _, rfl, rfl, HI0⟩
  case round =>
    obtain ⟨j, g, cap, hj, rfl, rfl, HI⟩ := hrel
    by_cases hlt : j < ms.length
    · have hji : (j : Int) < (ms.length : Int) := by omega
      obtain ⟨c0, c1⟩ := HM.out _ HI.out.bl j hlt
      have hct := HT.out _ HI.out.bl j hlt
      have HN : Hid (roF ms ts k (j + 1) = if mvM ms j = k then roF ms ts k j ++ [(ts j, mvS ms j)] else roF ms ts k j) := rfl
      have hxl := roF_len ms ts k j
      have HCT : Hid (∀ W, Below w.heap.size w W → W.cell? ⟨bt, ot + j, none⟩ = some (.int .i64 (ts j))) := fun W h => HT.out W h j hlt
      generalize mvM ms j = m at *
      generalize mvS ms j = l at *
      generalize ts j = t at *
      generalize roF ms ts k j = xs at *
      have HX : Hid (Bx (wr.alloc (.cells #[.int .i64 m, .string l] 94)) wr.heap.size 94 #[.int .i64 m, .string l]) := Bx.new _ _ _
      have HI1 : Hid (RoI w (wr.alloc (.cells #[.int .i64 m, .string l] 94)) g cap xs) := HI.out.keep (below_all _ _)
      have hxc := HX.out.cell
      by_cases hmk : m = k
      · have hb : (m == k) = true := beq_iff_eq.2 hmk
        have HN2 : Hid (roF ms ts k (j + 1) = xs ++ [(t, l)]) := by show _ = _; rw [HN.out, if_pos hmk]
        clear hmk HN
        go_wp2_with fail
        have hk1 : (j : Int) < (ms.length : Int) := by omega
        clear hxc
        generalize wr.alloc (.cells #[.int .i64 m, .string l] 94) = W1 at *
        have hbs := HI1.out.bl.size
        have hgl : g < wr.heap.size := Own.lt HI.out.ow
        have HBd : Hid (Below W1.heap.size W1 W1.drew) := (Below.refl _ _).drew
        have HCC : Hid (∀ W, Below W1.heap.size W1 W → W.cell? ⟨bt, ot + j, none⟩ = some (.int .i64 t) ∧ W.cell? ⟨wr.heap.size, 1, none⟩ = some (.string l)) := fun W h => ⟨HCT.out W (HI1.out.bl.trans (h.mono HI1.out.bl.size)), (HX.out.below h HX.out.lt).cell 1⟩
        have HO : Hid (Own W1.drew g cap xs.length 2 155 (mvF (nM (xs ++ [(t, l)])) (nL (xs ++ [(t, l)])))) := Own.below (B := W1.heap.size) (OwnN.ext HI1.out.ow (t, l)) (Below.refl _ _).drew (Own.lt HI1.out.ow)
        have HNN : Hid (∀ q, q < 2 → [Value.int .i64 t, .string l][q]? = some (mvF (nM (xs ++ [(t, l)])) (nL (xs ++ [(t, l)])) (xs.length * 2 + q))) := ntF_new xs (t, l)
        refine wp_region_held_drew (S := fun W => W.cell? ⟨bt, ot + j, none⟩ = some (.int .i64 t) ∧ W.cell? ⟨wr.heap.size, 1, none⟩ = some (.string l)) (by kernel_rfl) (HCC.out _ HBd.out) (fun hHeld => ?_)
        refine wpAnyH_take (i := 0) (oi := ?_) (v := ?_) ?_ (by kernel_rfl) (by kernel_rfl) (by kernel_rfl) ?_ ?_ (by assumption) ?_
        rotate_left 2
        · simp only [List.getElem?_toArray, List.getElem?_cons_succ, List.getElem?_cons_zero]; rfl
        · exact fun _ _ _ h => h
        · first
            | (refine Or.inr ⟨?_, ?_⟩ <;> rfl)
            | (refine Or.inl ⟨?_, ?_⟩; · rfl
               intro w hSw; (try dsimp only at hSw); go_simp; (try with_reducible rfl); done)
        try simp only [Act.put, List.setIfInBounds_toArray, List.set_cons_zero, List.set_cons_succ]
        refine wpAnyH_take (i := 1) (oi := ?_) (v := ?_) ?_ (by kernel_rfl) (by kernel_rfl) (by kernel_rfl) ?_ ?_ (by assumption) ?_
        rotate_left 2
        · simp only [List.getElem?_toArray, List.getElem?_cons_succ, List.getElem?_cons_zero]; rfl
        · exact fun _ _ _ h => h
        · first
            | (refine Or.inr ⟨?_, ?_⟩ <;> rfl)
            | (refine Or.inl ⟨?_, ?_⟩; · rfl
               intro w hSw; (try dsimp only at hSw); go_simp; (try with_reducible rfl); done)
        try simp only [Act.put, List.setIfInBounds_toArray, List.set_cons_zero, List.set_cons_succ]
        refine wpAnyH_take (i := 2) (oi := ?_) (v := ?_) ?_ (by kernel_rfl) (by kernel_rfl) (by kernel_rfl) ?_ ?_ (by assumption) ?_
        rotate_left 2
        · simp only [List.getElem?_toArray, List.getElem?_cons_succ, List.getElem?_cons_zero]; rfl
        · exact fun _ _ _ h => h
        · first
            | (refine Or.inr ⟨?_, ?_⟩ <;> rfl)
            | (refine Or.inl ⟨?_, ?_⟩; · rfl
               intro w hSw; (try dsimp only at hSw); go_simp; (try with_reducible rfl); done)
        try simp only [Act.put, List.setIfInBounds_toArray, List.set_cons_zero, List.set_cons_succ]
        refine wpAnyH_take (i := 3) (oi := ?_) (v := ?_) ?_ (by kernel_rfl) (by kernel_rfl) (by kernel_rfl) ?_ ?_ (by assumption) ?_
        rotate_left 2
        · simp only [List.getElem?_toArray, List.getElem?_cons_succ, List.getElem?_cons_zero]; rfl
        · exact fun _ _ _ h => h
        · first
            | (refine Or.inr ⟨?_, ?_⟩ <;> rfl)
            | (refine Or.inl ⟨?_, ?_⟩; · rfl
               intro w hSw; (try dsimp only at hSw); go_simp; (try with_reducible rfl); done)
        try simp only [Act.put, List.setIfInBounds_toArray, List.set_cons_zero, List.set_cons_succ]
        refine wpAnyH_take (i := 4) (oi := ?_) (v := ?_) ?_ (by kernel_rfl) (by kernel_rfl) (by kernel_rfl) ?_ ?_ (by assumption) ?_
        rotate_left 2
        · simp only [List.getElem?_toArray, List.getElem?_cons_succ, List.getElem?_cons_zero]; rfl
        · exact fun _ _ _ h => h
        · first
            | (refine Or.inr ⟨?_, ?_⟩ <;> rfl)
            | (refine Or.inl ⟨?_, ?_⟩; · rfl
               intro w hSw; (try dsimp only at hSw); go_simp; (try with_reducible rfl); done)
        try simp only [Act.put, List.setIfInBounds_toArray, List.set_cons_zero, List.set_cons_succ]
        refine wpAnyH_take (i := 5) (oi := ?_) (v := ?_) ?_ (by kernel_rfl) (by kernel_rfl) (by kernel_rfl) ?_ ?_ (by assumption) ?_
        rotate_left 2
        · simp only [List.getElem?_toArray, List.getElem?_cons_succ, List.getElem?_cons_zero]; rfl
        · exact fun _ _ _ h => h
        · first
            | (refine Or.inr ⟨?_, ?_⟩ <;> rfl)
            | (refine Or.inl ⟨?_, ?_⟩; · rfl
               intro w hSw; (try dsimp only at hSw); go_simp; (try with_reducible rfl); done)
        try simp only [Act.put, List.setIfInBounds_toArray, List.set_cons_zero, List.set_cons_succ]
        refine wpAnyH_take (i := 6) (oi := ?_) (v := ?_) ?_ (by kernel_rfl) (by kernel_rfl) (by kernel_rfl) ?_ ?_ (by assumption) ?_
        rotate_left 2
        · simp only [List.getElem?_toArray, List.getElem?_cons_succ, List.getElem?_cons_zero]; rfl
        · exact fun _ _ _ h => h
        · first
            | (refine Or.inr ⟨?_, ?_⟩ <;> rfl)
            | (refine Or.inl ⟨?_, ?_⟩; · rfl
               intro w hSw; (try dsimp only at hSw); go_simp; (try with_reducible rfl); done)
        try simp only [Act.put, List.setIfInBounds_toArray, List.set_cons_zero, List.set_cons_succ]
        refine wpAnyH_take (i := 7) (oi := ?_) (v := ?_) ?_ (by kernel_rfl) (by kernel_rfl) (by kernel_rfl) ?_ ?_ (by assumption) ?_
        rotate_left 2
        · simp only [List.getElem?_toArray, List.getElem?_cons_succ, List.getElem?_cons_zero]; rfl
        · exact fun _ _ _ h => h
        · first
            | (refine Or.inr ⟨?_, ?_⟩ <;> rfl)
            | (refine Or.inl ⟨?_, ?_⟩; · rfl
               intro w hSw; (try dsimp only at hSw); go_simp; (try with_reducible rfl); done)
        try simp only [Act.put, List.setIfInBounds_toArray, List.set_cons_zero, List.set_cons_succ]
        refine wpAnyH_ready (rs := [8]) (by kernel_rfl) (by simp) ?_
        refine AllReadyH.cons (o := ?_) ?_ (fun K hK => ?_) AllReadyH.nil
        rotate_left 1
        · simp only [List.getElem?_toArray, List.getElem?_cons_succ, List.getElem?_cons_zero]; rfl
        go_simp
        skip
        refine hK.out _ _ ?_ (fun hHeld => ?_)
        · try dsimp only
          exact HCC.out _ (HBd.out.alloc HBd.out.size _)
        clear hK K
        try simp only [Act.put, List.setIfInBounds_toArray, List.set_cons_zero, List.set_cons_succ]
        refine wpAnyH_ready (rs := [9]) (by kernel_rfl) (by simp) ?_
        refine AllReadyH.cons (o := ?_) ?_ (fun K hK => ?_) AllReadyH.nil
        rotate_left 1
        · simp only [List.getElem?_toArray, List.getElem?_cons_succ, List.getElem?_cons_zero]; rfl
        refine step_pushR (w := W1.drew) elMv rfl (.tmp 29) (.tmp 37) rfl HO.out rfl [.int .i64 t, .string l] rfl HNN.out (fun _ _ => mvF_one _ _ _) (by unfold maxLen; omega) (by omega) ?_
        intro g' c' wa HA hgr hd
        have HI2 : Hid (RoI w wa g' c' (xs ++ [(t, l)])) := (HI1.out.keep HBd.out).push HA hgr (hd.imp And.left Nat.le_of_lt)
        have hm0 := HCT.out _ HI2.out.bl
        have hm1 := ((HX.out.below HBd.out HX.out.lt).kept hgr (by omega)).cell 1
        clear HA hgr hd
        refine hK.out _ _ ?_ (fun hHeld => ?_)
        · try dsimp only
          go_keep
        clear hK K
        try simp only [Act.put, List.setIfInBounds_toArray, List.set_cons_zero, List.set_cons_succ]
        refine wpAnyH_take (i := 10) (oi := ?_) (v := ?_) ?_ (by kernel_rfl) (by kernel_rfl) (by kernel_rfl) ?_ ?_ (by assumption) ?_
        rotate_left 2
        · simp only [List.getElem?_toArray, List.getElem?_cons_succ, List.getElem?_cons_zero]; rfl
        · exact fun _ _ _ h => h
        · first
            | (refine Or.inr ⟨?_, ?_⟩ <;> rfl)
            | (refine Or.inl ⟨?_, ?_⟩; · rfl
               intro w hSw; (try dsimp only at hSw); go_simp; (try with_reducible rfl); done)
        try simp only [Act.put, List.setIfInBounds_toArray, List.set_cons_zero, List.set_cons_succ]
        refine wpAnyH_done (by kernel_rfl) ?_ _
        go_wp2_with fail
        go_roundw
        case rel => exact ⟨j + 1, g', c', by omega, by go_num, by rw [HN2.out]; simp, by rw [HN2.out]; exact HI2.out⟩
        case measure => simp [intOf]; omega
      · have hb : (m == k) = false := beq_eq_false_iff_ne.2 hmk
        have HN2 : Hid (roF ms ts k (j + 1) = xs) := by show _ = _; rw [HN.out, if_neg hmk]
        clear hmk HN
        go_wp2_with fail
        go_roundw
        case rel => exact ⟨j + 1, g, cap, by omega, by go_num, by rw [HN2.out], by rw [HN2.out]; exact HI1.out⟩
        case measure => simp [intOf]; omega
    · obtain rfl : j = ms.length := by omega
      have HV := Lib.hid (regVal_any g 0 cap (roF ms ts k ms.length) wr (by have := roF_len ms ts k ms.length; omega) (OwnN.nt HI.out.ow))
      have hbs := HI.out.bl.size
      have HL0 : Hid (roL ms ts k = if rgV (roF ms ts k ms.length) = true then roF ms ts k ms.length else []) := rfl
      generalize roF ms ts k ms.length = xs at *
      cases hv : rgV xs
      · rw [hv] at HV
        have HL : Hid (roL ms ts k = []) := by show _ = _; rw [HL0.out, hv]; rfl
        have HVX := Lib.hid hv
        clear hv
        go_wp2_with fail
        refine HV.out.mono ?_
        rintro e w2 ⟨rfl, hb2⟩
        have HB2 := Lib.hid (HI.out.bl.trans (hb2.mono hbs))
        clear hb2
        have hb2s := HB2.out.size
        go_wp2_with fail
        go_ret2
        exact ⟨⟨w2.heap.size, 0, by rw [HL.out, HVX.out]; rfl, by rw [HL.out]; exact own_empty _ _ _ _, hb2s⟩, HB2.out.alloc hb2s _⟩
      · rw [hv] at HV
        have HL : Hid (roL ms ts k = xs) := by show _ = _; rw [HL0.out, hv]; rfl
        have HVX := Lib.hid hv
        clear hv
        go_wp2_with fail
        refine HV.out.mono ?_
        rintro e w2 ⟨rfl, hb2⟩
        have HI2 := Lib.hid (HI.out.keep hb2)
        clear hb2
        go_wp2_with fail
        go_ret2
        exact ⟨⟨g, cap, by rw [HL.out, HVX.out]; rfl, by rw [HL.out]; exact HI2.out.ow, HI2.out.gz⟩, HI2.out.bl⟩
end Go.Proofs.YtlkdmpfifpkpaaaGreatDoor
namespace Go.Proofs.YtlkdmpfifpkpaaaGreatDoor
open Go.RowKit

set_option linter.unusedSimpArgs false in
set_option maxRecDepth 100000 in
set_option maxHeartbeats 4000000 in
theorem regOf_none (am : Option Addr) (cm : Nat) (bt : Option Addr) (ct : Nat) (ts : Nat → Int) (k : Int) (w : World) :
    Calls Tryz.prog 128 #[.slice am 0 cm, .slice bt 0 ct, .int .i64 k] w (RuRes (roL [] ts k) (rgV (roF [] ts k ([] : List (Int × ByteArray)).length)) w) := by
  have HI0 : Hid (RoI w (w.alloc (.cells #[] 155)) w.heap.size 0 []) := ⟨own_empty _ _ _ _, Nat.le_refl _, below_all _ _⟩
  go_enter Tryz.func128, Tryz.ntmps128
  go_wp2_with fail
  go_loopw [8, 9, 10, 20] (fun o _ _ i wr => ∃ g cap : Nat, i = .int .i64 0 ∧ o = .slice (some ⟨g, 0, none⟩) 0 cap ∧ Hid (RoI w wr g cap [])) (fun _ _ _ i _ => 0)
  case atStart => exact ⟨w.heap.size, 0, rfl, rfl, HI0⟩
  case round =>
    obtain ⟨g, cap, rfl, rfl, HI⟩ := hrel
    have HV := Lib.hid (regVal_any g 0 cap [] wr (Nat.zero_le _) (OwnN.nt HI.out.ow))
    have hbs := HI.out.bl.size
    have HL : Hid (roL [] ts k = []) := by show _ = _; unfold roL; split <;> rfl
    have HVX : Hid (rgV (roF [] ts k 0) = rgV []) := rfl
    go_wp2_with fail
    refine HV.out.mono ?_
    rintro e w2 ⟨rfl, hb2⟩
    cases hv : rgV []
    · rw [hv] at HVX
      clear hv
      have HB2 := Lib.hid (HI.out.bl.trans (hb2.mono hbs))
      clear hb2
      have hb2s := HB2.out.size
      go_wp2_with fail
      go_ret2
      exact ⟨⟨w2.heap.size, 0, by rw [HL.out, HVX.out]; rfl, by rw [HL.out]; exact own_empty _ _ _ _, hb2s⟩, HB2.out.alloc hb2s _⟩
    · rw [hv] at HVX
      clear hv
      have HI2 := Lib.hid (HI.out.keep hb2)
      clear hb2
      go_wp2_with fail
      go_ret2
      exact ⟨⟨g, cap, by rw [HL.out, HVX.out]; rfl, by rw [HL.out]; exact HI2.out.ow, HI2.out.gz⟩, HI2.out.bl⟩
/-- the world facts that the library asks for -/
structure WF (m : Int) (w : World) : Prop where
  mx : w.cell? ⟨0, 0, none⟩ = some (.int .i64 m)
  tab : Lib.TabIs Tryz.prog w "internal/strconv.uint64pow10" .u64 Lib.pow10Tab
theorem var_keep {w w' : World} {nm : String} {r : Array Value} (h : w.var? Tryz.prog nm = some r) (hb : Below w.heap.size w w') : w'.var? Tryz.prog nm = some r := by
  unfold World.var? at h ⊢
  cases hg : Tryz.prog.globalNamed nm with
  | none => rw [hg] at h; cases h
  | some g =>
    rw [hg] at h
    simp only [Option.bind_some] at h ⊢
    have hlt : g < w.heap.size := by
      rcases Nat.lt_or_ge g w.heap.size with h' | h'
      · exact h'
      · simp [Array.getElem?_eq_none h'] at h
    rw [hb.block g hlt]
    exact h
theorem WF.below {m : Int} {w w' : World} (h : WF m w) (hb : Below w.heap.size w w') : WF m w' :=
  ⟨by rw [hb.cell (p := ⟨0, 0, none⟩) (World.block_lt_of_cell? w ⟨0, 0, none⟩ h.mx)]; exact h.mx, var_keep h.tab hb⟩
/-- a number as Itoa writes it -/
def itT (n : Int) : ByteArray := ⟨(Lib.itoa n).toArray⟩
theorem itT_size (n : Int) (h0 : -9223372036854775808 ≤ n) (h1 : n ≤ 9223372036854775807) : (itT n).size ≤ 21 := by
  have := Lib.itoa_length_le n h0 h1
  unfold itT
  show (Lib.itoa n).toArray.size ≤ 21
  simpa using this
theorem itoa_any {m : Int} (n : Int) (h0 : -9223372036854775808 ≤ n) (h1 : n ≤ 9223372036854775807) (w : World) (hW : WF m w) :
    Calls Tryz.prog 38 #[.int .i64 n] w fun e w' => e = .returned (.string (itT n)) ∧ Below w.heap.size w w' :=
  (Tryz.strconv_Itoa n h0 h1 w hW.tab).mono fun _ _ ⟨e1, k, os, e2⟩ => ⟨e1, by rw [e2]; exact Lib.below_grow _ _ (Nat.le_refl _) _ _⟩
/-- a row of texts of its own -/
def OwT (w : World) (g cap n : Nat) (tx : Nat → ByteArray) : Prop := Own w g cap n 1 9 (fun i => .string (tx i))
/-- the texts of a row, joined -/
def jnT (tx : Nat → ByteArray) (n : Nat) : ByteArray := ⟨(Lib.join ((List.range n).map fun i => (tx i).data.toList) [32]).toArray⟩
theorem lens_le (B : Nat) : ∀ xs : List (List UInt8), (∀ x ∈ xs, x.length ≤ B) → Lib.lens xs ≤ xs.length * B
  | [], _ => by simp [Lib.lens]
  | x :: r, h => by
    have h1 := lens_le B r (fun y hy => h y (List.mem_cons_of_mem _ hy))
    have h2 := h x (List.mem_cons_self ..)
    have h3 : Lib.lens (x :: r) = x.length + Lib.lens r := by simp [Lib.lens]
    rw [h3, List.length_cons, Nat.succ_mul]
    omega
theorem join_len (xs : List (List UInt8)) (c : UInt8) (B : Nat) (h : ∀ x ∈ xs, x.length ≤ B) : (Lib.join xs [c]).length ≤ xs.length * (B + 1) := by
  cases xs with
  | nil => simp [Lib.join_nil]
  | cons x r =>
    have := lens_le B (x :: r) h
    rw [Lib.join_length, Nat.mul_add]
    simp only [List.length_cons, List.length_nil] at this ⊢
    omega
theorem join_any (g c n : Nat) (tx : Nat → ByteArray) (w : World) (hn : n ≤ 1000) (hB : ∀ i, i < n → (tx i).size ≤ 1000) (h : OwT w g c n tx) :
    Calls Tryz.prog 127 #[.slice (some ⟨g, 0, none⟩) n c, .string ⟨#[32]⟩] w fun e w' => e = .returned (.string (jnT tx n)) ∧ Below w.heap.size w w' := by
  have q := Tryz.strings_Join g 0 c ((List.range n).map tx) ⟨#[32]⟩ w (fun j x hj => ?_) h.lt (by simp; omega) (by simpa using h.1) ?_
  · simpa [jnT, Function.comp_def] using q
  · rw [List.getElem?_map] at hj
    rcases Nat.lt_or_ge j n with hlt | hge
    · rw [List.getElem?_range hlt] at hj
      cases hj
      rw [Nat.zero_add]
      exact h.cell (i := j) (by omega)
    · rw [List.getElem?_eq_none (by simpa using hge)] at hj
      cases hj
  · have := join_len ((((List.range n).map tx).map (·.data.toList))) 32 1000 (fun x hx => by
      simp only [List.mem_map, List.mem_range] at hx
      obtain ⟨_, ⟨i, hi, rfl⟩, rfl⟩ := hx
      simpa using hB i hi)
    simp only [List.length_map, List.length_range] at this
    have h2 : n * (1000 + 1) ≤ 1000 * 1001 := Nat.mul_le_mul_right _ hn
    show (Lib.join _ [32]).length ≤ _
    omega
end Go.Proofs.YtlkdmpfifpkpaaaGreatDoor
namespace Go.Proofs.YtlkdmpfifpkpaaaGreatDoor
open Go.RowKit

theorem elStr : Elem Tryz.prog 60 9 (.string ⟨#[]⟩) 1 16 := ⟨Tryz.underlying60, by kernel_rfl, rfl, by decide⟩
/-- between two rounds of a loop that tells texts -/
structure TdI (w wr : World) (g cap j : Nat) (tx : Nat → ByteArray) : Prop where
  ow : OwT wr g cap j tx
  gz : w.heap.size ≤ g
  bl : Below w.heap.size w wr
theorem TdI.keep {w wr wa : World} {g cap j : Nat} {tx : Nat → ByteArray} (h : TdI w wr g cap j tx) (hb : Below wr.heap.size wr wa) : TdI w wa g cap j tx :=
  ⟨Own.below h.ow hb (Own.lt h.ow), h.gz, h.bl.trans (hb.mono h.bl.size)⟩
theorem TdI.push {w wr wa : World} {g cap g' c' j : Nat} {tx : Nat → ByteArray} (h : TdI w wr g cap j tx) (HA : OwT wa g' c' (j + 1) tx) (hgr : wr.grownBy wa (some g)) (hd : g' = g ∨ wr.heap.size ≤ g') : TdI w wa g' c' (j + 1) tx := by
  have hgz := h.gz
  have hbs := h.bl.size
  refine ⟨HA, ?_, h.bl.trans (below_of_grown hgr hgz hbs)⟩
  rcases hd with q | q <;> omega
/-- the words of a register -/
def bkW (ns : List (Int × ByteArray)) (i : Nat) : ByteArray := itT (nM ns i) ++ nL ns i
/-- what book says -/
def bkN (st : Ses) (k : Int) : List (Int × ByteArray) := roL st.ms (iF st.ts) k
def bkG (st : Ses) (k : Int) : Bool := decide (k < st.x.n) && rgV (roF st.ms (iF st.ts) k st.ms.length)
def bkO (st : Ses) (l : ByteArray) : ByteArray := if bkG st (nmF l) = true then jnT (bkW (bkN st (nmF l))) (bkN st (nmF l)).length else noT
theorem regOf_ses {z s g1 c1 g2 c2 : Nat} {vm vt : Value} {st : Ses} {w : World} (h : SsC z w s g1 c1 g2 c2 vm vt st) (hl : st.ts.length = st.ms.length) (hms : st.ms.length ≤ 1000000) (k : Int) :
    Calls Tryz.prog 128 #[vm, vt, .int .i64 k] w (RuRes (bkN st k) (rgV (roF st.ms (iF st.ts) k st.ms.length)) w) := by
  have hz : ∀ am cm bt ct, st.ms = [] → Calls Tryz.prog 128 #[.slice am 0 cm, .slice bt 0 ct, .int .i64 k] w (RuRes (bkN st k) (rgV (roF st.ms (iF st.ts) k st.ms.length)) w) := fun am cm bt ct e => by
    unfold bkN
    rw [e]
    exact regOf_none am cm bt ct (iF st.ts) k w
  rcases h.mv with ⟨g, cm, rfl, _, ho⟩ | ⟨e, rfl⟩
  · rcases h.tv with ⟨g', ct, rfl, _, ho'⟩ | ⟨e, rfl⟩
    · rw [hl] at ho' ⊢
      exact regOf_any g 0 cm g' 0 ct st.ms (iF st.ts) k w hms (MvsC.of_own ho) (IC.of_own ho')
    · have e' : st.ms = [] := List.length_eq_zero_iff.1 (by omega)
      have q := hz (some ⟨g, 0, none⟩) cm none 0 e'
      rw [show st.ms.length = 0 by omega] at q ⊢
      exact q
  · have e' : st.ms = [] := List.length_eq_zero_iff.1 e
    obtain ⟨at', ct, hvt⟩ := h.tv.shape
    have q := hz none 0 at' ct e'
    rw [hvt, show st.ts.length = 0 by omega]
    exact q
theorem rgV_len1 {ns : List (Int × ByteArray)} (h : rgV ns = true) {i : Nat} (hi : i < ns.length) : (0 ≤ nM ns i ∧ nM ns i ≤ 2000) ∧ (nL ns i).size ≤ 1 := by
  have hall := (rgV_true.1 h).2
  have hpos : ∀ j, j < ns.length → 0 ≤ nM ns j := fun j => by
    induction j with
    | zero =>
      intro h0
      have q := (okN_true.1 (hall 0 h0)).1.1
      unfold prM at q
      simpa using q
    | succ j ih =>
      intro h0
      have q := (okN_true.1 (hall (j + 1) h0)).1.1
      rw [prM_succ] at q
      have := ih (by omega)
      omega
  have q := okN_true.1 (hall i hi)
  have e := evB_size q.2
  exact ⟨⟨hpos i hi, q.1.2⟩, by omega⟩
theorem bkN_rgV {st : Ses} {k : Int} (h : rgV (roF st.ms (iF st.ts) k st.ms.length) = true) : rgV (bkN st k) = true := by
  unfold bkN roL
  rw [if_pos h, h]
theorem bkW_size {ns : List (Int × ByteArray)} (h : rgV ns = true) {i : Nat} (hi : i < ns.length) : (bkW ns i).size ≤ 1000 := by
  obtain ⟨⟨h1, h2⟩, h3⟩ := rgV_len1 h hi
  have := itT_size (nM ns i) (by omega) (by omega)
  unfold bkW
  rw [ByteArray.size_append]
  omega
set_option linter.unusedSimpArgs false in
set_option maxRecDepth 100000 in
set_option maxHeartbeats 4000000 in
theorem doBook_any (z s bw n c : Nat) (l : ByteArray) (m : Int) (st : Ses) (own : Nat → Prop) (w : World) (hn : 2 ≤ n) (hW : WF m w) (hS : StS z st own w s) (hl : st.ts.length = st.ms.length) (hms : st.ms.length ≤ 1000) (hw : w.cell? ⟨bw, 1, none⟩ = some (.string l)) :
    Calls Tryz.prog 102 #[.pointer (some ⟨s, 0, none⟩), .slice (some ⟨bw, 0, none⟩) n c] w (Md z st (bkO st l) s own w) := by
  have HS := Lib.hid hS
  have HWF := Lib.hid hW
  have hnm := nmF_bd l
  have hn1 : (1 : Int) < (n : Int) := by omega
  have hn2 : 1 < n := by omega
  obtain ⟨g1, c1, g2, c2, vm, vt, h1, _⟩ := hS
  obtain ⟨am, cm, hvm⟩ := h1.mv.shape
  obtain ⟨at', ct, hvt⟩ := h1.tv.shape
  subst hvm hvt
  have HSC := Lib.hid h1
  have hsb := h1.box.lt
  have hsc := h1.box.cell
  clear h1 hW
  have HBd : Hid (Below w.heap.size w w.drew) := (Below.refl _ _).drew
  have HBO : Hid (bkO st l = if bkG st (nmF l) = true then jnT (bkW (bkN st (nmF l))) (bkN st (nmF l)).length else noT) := rfl
  have HBG : Hid (bkG st (nmF l) = (decide (nmF l < st.x.n) && rgV (roF st.ms (iF st.ts) (nmF l) st.ms.length))) := rfl
  have HOW : Hid (own = own) := rfl
  have HCC : Hid (∀ W, Below w.heap.size w W → W.cell? ⟨s, 4, none⟩ = some (.slice am st.ms.length cm) ∧ W.cell? ⟨s, 5, none⟩ = some (.slice at' st.ts.length ct)) := fun W h => ⟨(HSC.out.box.below h HSC.out.box.lt).cell 4, (HSC.out.box.below h HSC.out.box.lt).cell 5⟩
  have HRO : Hid (∀ W, Below w.heap.size w W → Calls Tryz.prog 128 #[.slice am st.ms.length cm, .slice at' st.ts.length ct, .int .i64 (nmF l)] W fun e W' => ∃ gx cx, e = .returned (.tuple #[.slice (some ⟨gx, 0, none⟩) (bkN st (nmF l)).length cx, .bool (rgV (roF st.ms (iF st.ts) (nmF l) st.ms.length))]) ∧ Hid (OwnN W' gx cx (bkN st (nmF l))) ∧ Hid (Below W.heap.size W W')) := fun W h => (regOf_ses (HSC.out.fr (Fr.of_below h (fun _ => False)) (fun _ _ h => h)) hl (by omega) (nmF l)).mono fun e W' ⟨⟨gx, cx, h1, h2, _⟩, h3⟩ => ⟨gx, cx, h1, h2, h3⟩
  clear hl
  have HNO : Hid (∀ W e, Below w.heap.size w W → bkG st (nmF l) = false → e = .returned (.string noT) → Md z st (bkO st l) s own w e W) := fun W e h h2 h3 => ⟨by rw [h3, HBO.out, if_neg (by rw [h2]; decide)], own, HS.out.keep (Fr.of_below h _), Fr.of_below h own, fun _ hq => .inl hq⟩
  go_enter Tryz.func102, Tryz.ntmps102
  go_wp2_with fail
  refine (numberOf_any l _).mono ?_
  rintro e w' ⟨rfl, rfl⟩
  by_cases hk : nmF l < (st.x.n : Int)
  · have hk2 : ¬ (st.x.n : Int) ≤ nmF l := by omega
    rw [show decide (nmF l < (st.x.n : Int)) = true from decide_eq_true hk, Bool.true_and] at HBG
    have HRG : Hid (rgV (roF st.ms (iF st.ts) (nmF l) st.ms.length) = true → rgV (bkN st (nmF l)) = true) := bkN_rgV
    have HNU : Hid (nmF l = nmF l) := rfl
    clear hk
    generalize hnk : nmF l = nk at *
    clear hnk HNU
    generalize bkN st nk = xs at *
    generalize hrv : rgV (roF st.ms (iF st.ts) nk st.ms.length) = rv at *
    clear hrv
    go_wp2_with fail
    refine wp_region_held_drew (S := fun W => W.cell? ⟨s, 4, none⟩ = some (.slice am st.ms.length cm) ∧ W.cell? ⟨s, 5, none⟩ = some (.slice at' st.ts.length ct)) (by kernel_rfl) (HCC.out _ HBd.out) (fun hHeld => ?_)
    refine wpAnyH_take (i := 0) (oi := ?_) (v := ?_) ?_ (by kernel_rfl) (by kernel_rfl) (by kernel_rfl) ?_ ?_ (by assumption) ?_
    rotate_left 2
    · simp only [List.getElem?_toArray, List.getElem?_cons_succ, List.getElem?_cons_zero]; rfl
    · exact fun _ _ _ h => h
    · first
        | (refine Or.inr ⟨?_, ?_⟩ <;> rfl)
        | (refine Or.inl ⟨?_, ?_⟩; · rfl
           intro w hSw; (try dsimp only at hSw); go_simp; (try with_reducible rfl); done)
    try simp only [Act.put, List.setIfInBounds_toArray, List.set_cons_zero, List.set_cons_succ]
    refine wpAnyH_take (i := 1) (oi := ?_) (v := ?_) ?_ (by kernel_rfl) (by kernel_rfl) (by kernel_rfl) ?_ ?_ (by assumption) ?_
    rotate_left 2
    · simp only [List.getElem?_toArray, List.getElem?_cons_succ, List.getElem?_cons_zero]; rfl
    · exact fun _ _ _ h => h
    · first
        | (refine Or.inr ⟨?_, ?_⟩ <;> rfl)
        | (refine Or.inl ⟨?_, ?_⟩; · rfl
           intro w hSw; (try dsimp only at hSw); go_simp; (try with_reducible rfl); done)
    try simp only [Act.put, List.setIfInBounds_toArray, List.set_cons_zero, List.set_cons_succ]
    refine wpAnyH_take (i := 2) (oi := ?_) (v := ?_) ?_ (by kernel_rfl) (by kernel_rfl) (by kernel_rfl) ?_ ?_ (by assumption) ?_
    rotate_left 2
    · simp only [List.getElem?_toArray, List.getElem?_cons_succ, List.getElem?_cons_zero]; rfl
    · exact fun _ _ _ h => h
    · first
        | (refine Or.inr ⟨?_, ?_⟩ <;> rfl)
        | (refine Or.inl ⟨?_, ?_⟩; · rfl
           intro w hSw; (try dsimp only at hSw); go_simp; (try with_reducible rfl); done)
    try simp only [Act.put, List.setIfInBounds_toArray, List.set_cons_zero, List.set_cons_succ]
    refine wpAnyH_take (i := 3) (oi := ?_) (v := ?_) ?_ (by kernel_rfl) (by kernel_rfl) (by kernel_rfl) ?_ ?_ (by assumption) ?_
    rotate_left 2
    · simp only [List.getElem?_toArray, List.getElem?_cons_succ, List.getElem?_cons_zero]; rfl
    · exact fun _ _ _ h => h
    · first
        | (refine Or.inr ⟨?_, ?_⟩ <;> rfl)
        | (refine Or.inl ⟨?_, ?_⟩; · rfl
           intro w hSw; (try dsimp only at hSw); go_simp; (try with_reducible rfl); done)
    try simp only [Act.put, List.setIfInBounds_toArray, List.set_cons_zero, List.set_cons_succ]
    refine wpAnyH_take (i := 4) (oi := ?_) (v := ?_) ?_ (by kernel_rfl) (by kernel_rfl) (by kernel_rfl) ?_ ?_ (by assumption) ?_
    rotate_left 2
    · simp only [List.getElem?_toArray, List.getElem?_cons_succ, List.getElem?_cons_zero]; rfl
    · exact fun _ _ _ h => h
    · first
        | (refine Or.inr ⟨?_, ?_⟩ <;> rfl)
        | (refine Or.inl ⟨?_, ?_⟩; · rfl
           intro w hSw; (try dsimp only at hSw); go_simp; (try with_reducible rfl); done)
    try simp only [Act.put, List.setIfInBounds_toArray, List.set_cons_zero, List.set_cons_succ]
    refine wpAnyH_take (i := 5) (oi := ?_) (v := ?_) ?_ (by kernel_rfl) (by kernel_rfl) (by kernel_rfl) ?_ ?_ (by assumption) ?_
    rotate_left 2
    · simp only [List.getElem?_toArray, List.getElem?_cons_succ, List.getElem?_cons_zero]; rfl
    · exact fun _ _ _ h => h
    · first
        | (refine Or.inr ⟨?_, ?_⟩ <;> rfl)
        | (refine Or.inl ⟨?_, ?_⟩; · rfl
           intro w hSw; (try dsimp only at hSw); go_simp; (try with_reducible rfl); done)
    try simp only [Act.put, List.setIfInBounds_toArray, List.set_cons_zero, List.set_cons_succ]
    refine wpAnyH_take (i := 6) (oi := ?_) (v := ?_) ?_ (by kernel_rfl) (by kernel_rfl) (by kernel_rfl) ?_ ?_ (by assumption) ?_
    rotate_left 2
    · simp only [List.getElem?_toArray, List.getElem?_cons_succ, List.getElem?_cons_zero]; rfl
    · exact fun _ _ _ h => h
    · first
        | (refine Or.inr ⟨?_, ?_⟩ <;> rfl)
        | (refine Or.inl ⟨?_, ?_⟩; · rfl
           intro w hSw; (try dsimp only at hSw); go_simp; (try with_reducible rfl); done)
    try simp only [Act.put, List.setIfInBounds_toArray, List.set_cons_zero, List.set_cons_succ]
    refine wpAnyH_take (i := 7) (oi := ?_) (v := ?_) ?_ (by kernel_rfl) (by kernel_rfl) (by kernel_rfl) ?_ ?_ (by assumption) ?_
    rotate_left 2
    · simp only [List.getElem?_toArray, List.getElem?_cons_succ, List.getElem?_cons_zero]; rfl
    · exact fun _ _ _ h => h
    · first
        | (refine Or.inr ⟨?_, ?_⟩ <;> rfl)
        | (refine Or.inl ⟨?_, ?_⟩; · rfl
           intro w hSw; (try dsimp only at hSw); go_simp; (try with_reducible rfl); done)
    try simp only [Act.put, List.setIfInBounds_toArray, List.set_cons_zero, List.set_cons_succ]
    refine wpAnyH_take (i := 8) (oi := ?_) (v := ?_) ?_ (by kernel_rfl) (by kernel_rfl) (by kernel_rfl) ?_ ?_ (by assumption) ?_
    rotate_left 2
    · simp only [List.getElem?_toArray, List.getElem?_cons_succ, List.getElem?_cons_zero]; rfl
    · exact fun _ _ _ h => h
    · first
        | (refine Or.inr ⟨?_, ?_⟩ <;> rfl)
        | (refine Or.inl ⟨?_, ?_⟩; · rfl
           intro w hSw; (try dsimp only at hSw); go_simp; (try with_reducible rfl); done)
    try simp only [Act.put, List.setIfInBounds_toArray, List.set_cons_zero, List.set_cons_succ]
    refine wpAnyH_ready (rs := [9]) (by kernel_rfl) (by simp) ?_
    refine AllReadyH.cons (o := ?_) ?_ (fun K hK => ?_) AllReadyH.nil
    rotate_left 1
    · simp only [List.getElem?_toArray, List.getElem?_cons_succ, List.getElem?_cons_zero]; rfl
    go_simp
    go_at_call 128
    go_must (refine Calls.mono (HRO.out _ HBd.out) ?_)
    rintro e w2 ⟨gx, cx, rfl, HOX, HB12⟩
    have HB2 : Hid (Below w.heap.size w w2) := HBd.out.trans (HB12.out.mono HBd.out.size)
    refine hK.out _ _ ?_ (fun hHeld => ?_)
    · try dsimp only
      exact HCC.out _ HB2.out
    clear hK K
    try simp only [Act.put, List.setIfInBounds_toArray, List.set_cons_zero, List.set_cons_succ]
    refine wpAnyH_take (i := 10) (oi := ?_) (v := ?_) ?_ (by kernel_rfl) (by kernel_rfl) (by kernel_rfl) ?_ ?_ (by assumption) ?_
    rotate_left 2
    · simp only [List.getElem?_toArray, List.getElem?_cons_succ, List.getElem?_cons_zero]; rfl
    · exact fun _ _ _ h => h
    · first
        | (refine Or.inr ⟨?_, ?_⟩ <;> rfl)
        | (refine Or.inl ⟨?_, ?_⟩; · rfl
           intro w hSw; (try dsimp only at hSw); go_simp; (try with_reducible rfl); done)
    try simp only [Act.put, List.setIfInBounds_toArray, List.set_cons_zero, List.set_cons_succ]
    refine wpAnyH_take (i := 11) (oi := ?_) (v := ?_) ?_ (by kernel_rfl) (by kernel_rfl) (by kernel_rfl) ?_ ?_ (by assumption) ?_
    rotate_left 2
    · simp only [List.getElem?_toArray, List.getElem?_cons_succ, List.getElem?_cons_zero]; rfl
    · exact fun _ _ _ h => h
    · first
        | (refine Or.inr ⟨?_, ?_⟩ <;> rfl)
        | (refine Or.inl ⟨?_, ?_⟩; · rfl
           intro w hSw; (try dsimp only at hSw); go_simp; (try with_reducible rfl); done)
    try simp only [Act.put, List.setIfInBounds_toArray, List.set_cons_zero, List.set_cons_succ]
    refine wpAnyH_take (i := 12) (oi := ?_) (v := ?_) ?_ (by kernel_rfl) (by kernel_rfl) (by kernel_rfl) ?_ ?_ (by assumption) ?_
    rotate_left 2
    · simp only [List.getElem?_toArray, List.getElem?_cons_succ, List.getElem?_cons_zero]; rfl
    · exact fun _ _ _ h => h
    · first
        | (refine Or.inr ⟨?_, ?_⟩ <;> rfl)
        | (refine Or.inl ⟨?_, ?_⟩; · rfl
           intro w hSw; (try dsimp only at hSw); go_simp; (try with_reducible rfl); done)
    try simp only [Act.put, List.setIfInBounds_toArray, List.set_cons_zero, List.set_cons_succ]
    refine wpAnyH_take (i := 13) (oi := ?_) (v := ?_) ?_ (by kernel_rfl) (by kernel_rfl) (by kernel_rfl) ?_ ?_ (by assumption) ?_
    rotate_left 2
    · simp only [List.getElem?_toArray, List.getElem?_cons_succ, List.getElem?_cons_zero]; rfl
    · exact fun _ _ _ h => h
    · first
        | (refine Or.inr ⟨?_, ?_⟩ <;> rfl)
        | (refine Or.inl ⟨?_, ?_⟩; · rfl
           intro w hSw; (try dsimp only at hSw); go_simp; (try with_reducible rfl); done)
    try simp only [Act.put, List.setIfInBounds_toArray, List.set_cons_zero, List.set_cons_succ]
    refine wpAnyH_take (i := 14) (oi := ?_) (v := ?_) ?_ (by kernel_rfl) (by kernel_rfl) (by kernel_rfl) ?_ ?_ (by assumption) ?_
    rotate_left 2
    · simp only [List.getElem?_toArray, List.getElem?_cons_succ, List.getElem?_cons_zero]; rfl
    · exact fun _ _ _ h => h
    · first
        | (refine Or.inr ⟨?_, ?_⟩ <;> rfl)
        | (refine Or.inl ⟨?_, ?_⟩; · rfl
           intro w hSw; (try dsimp only at hSw); go_simp; (try with_reducible rfl); done)
    try simp only [Act.put, List.setIfInBounds_toArray, List.set_cons_zero, List.set_cons_succ]
    refine wpAnyH_done (by kernel_rfl) ?_ _
    clear hHeld HB12 hsc hsb
    cases rv
    · go_wp2_with fail
      go_ret
      exact HNO.out _ _ HB2.out HBG.out rfl
    · have HRV := Lib.hid (HRG.out rfl)
      have hxl : xs.length ≤ 30 := (rgV_true.1 HRV.out).1
      have hmk := fun w => run_mk0 elStr xs.length (by omega) (by omega) w
      go_wp2_with fail
      have HN : Hid (∀ W, Below w2.heap.size w2 W → NtC W gx 0 xs) := fun W h => (OwnN.nt HOX.out).keep h
      have HI0 : Hid (TdI w2 (w2.alloc (.cells (madeCells #[.string ⟨#[]⟩] (xs.length * 1)) 9)) w2.heap.size xs.length 0 (bkW xs)) := ⟨own_made _ _ _ _ _ _ (by unfold maxLen; omega), Nat.le_refl _, below_all _ _⟩
      have HWF2 := Lib.hid (HWF.out.below HB2.out)
      have HBS : Hid (∀ i, i < xs.length → (bkW xs i).size ≤ 1000) := fun i hi => bkW_size HRV.out hi
      have HNB : Hid (∀ i, i < xs.length → (0 ≤ nM xs i ∧ nM xs i ≤ 2000)) := fun i hi => (rgV_len1 HRV.out hi).1
      go_loopw [8, 10, 43] (fun o _ i wr => ∃ j g cap : Nat, j ≤ xs.length ∧ i = .int .i64 j ∧ o = .slice (some ⟨g, 0, none⟩) j cap ∧ Hid (TdI w2 wr g cap j (bkW xs))) (fun _ _ i _ => xs.length - (intOf i).toNat)
      case atStart => exact ⟨0, w2.heap.size, xs.length, Nat.zero_le _, rfl, rfl, by simpa using HI0⟩
      case round =>
        obtain ⟨j, g, cap, hj, rfl, rfl, HI⟩ := hrel
        by_cases hlt : j < xs.length
        · have hji : (j : Int) < (xs.length : Int) := by omega
          obtain ⟨c0, c1⟩ := HN.out _ HI.out.bl j hlt
          rw [Nat.zero_add] at c0 c1
          have HTX : Hid (bkW xs j = itT (nM xs j) ++ nL xs j) := rfl
          have HMB := Lib.hid (HNB.out j hlt)
          generalize nM xs j = m1 at *
          generalize nL xs j = l1 at *
          have HX : Hid (Bx (wr.alloc (.cells #[.int .i64 m1, .string l1] 155)) wr.heap.size 155 #[.int .i64 m1, .string l1]) := Bx.new _ _ _
          have HI1 : Hid (TdI w2 (wr.alloc (.cells #[.int .i64 m1, .string l1] 155)) g cap j (bkW xs)) := HI.out.keep (below_all _ _)
          go_wp2_with fail
          clear c0 c1
          have hgl : g < wr.heap.size := Own.lt HI.out.ow
          have hsz : ¬ 9223372036854775807 < (itT m1).size + l1.size := by rw [← ByteArray.size_append]; have := HBS.out j hlt; rw [HTX.out] at this; omega
          generalize wr.alloc (.cells #[.int .i64 m1, .string l1] 155) = W1 at *
          have HBd1 : Hid (Below W1.heap.size W1 W1.drew) := (Below.refl _ _).drew
          have HC1 : Hid (∀ W, Below W1.heap.size W1 W → W.cell? ⟨wr.heap.size, 0, none⟩ = some (.int .i64 m1) ∧ W.cell? ⟨wr.heap.size, 1, none⟩ = some (.string l1)) := fun W h => ⟨(HX.out.below h HX.out.lt).cell 0, (HX.out.below h HX.out.lt).cell 1⟩
          refine wp_region_held_drew (S := fun W => W.cell? ⟨wr.heap.size, 0, none⟩ = some (.int .i64 m1) ∧ W.cell? ⟨wr.heap.size, 1, none⟩ = some (.string l1)) (by kernel_rfl) (HC1.out _ HBd1.out) (fun hHeld => ?_)
          refine wpAnyH_take (i := 0) (oi := ?_) (v := ?_) ?_ (by kernel_rfl) (by kernel_rfl) (by kernel_rfl) ?_ ?_ (by assumption) ?_
          rotate_left 2
          · simp only [List.getElem?_toArray, List.getElem?_cons_succ, List.getElem?_cons_zero]; rfl
          · exact fun _ _ _ h => h
          · first
              | (refine Or.inr ⟨?_, ?_⟩ <;> rfl)
              | (refine Or.inl ⟨?_, ?_⟩; · rfl
                 intro w hSw; (try dsimp only at hSw); go_simp; (try with_reducible rfl); done)
          try simp only [Act.put, List.setIfInBounds_toArray, List.set_cons_zero, List.set_cons_succ]
          refine wpAnyH_take (i := 1) (oi := ?_) (v := ?_) ?_ (by kernel_rfl) (by kernel_rfl) (by kernel_rfl) ?_ ?_ (by assumption) ?_
          rotate_left 2
          · simp only [List.getElem?_toArray, List.getElem?_cons_succ, List.getElem?_cons_zero]; rfl
          · exact fun _ _ _ h => h
          · first
              | (refine Or.inr ⟨?_, ?_⟩ <;> rfl)
              | (refine Or.inl ⟨?_, ?_⟩; · rfl
                 intro w hSw; (try dsimp only at hSw); go_simp; (try with_reducible rfl); done)
          try simp only [Act.put, List.setIfInBounds_toArray, List.set_cons_zero, List.set_cons_succ]
          refine wpAnyH_take (i := 2) (oi := ?_) (v := ?_) ?_ (by kernel_rfl) (by kernel_rfl) (by kernel_rfl) ?_ ?_ (by assumption) ?_
          rotate_left 2
          · simp only [List.getElem?_toArray, List.getElem?_cons_succ, List.getElem?_cons_zero]; rfl
          · exact fun _ _ _ h => h
          · first
              | (refine Or.inr ⟨?_, ?_⟩ <;> rfl)
              | (refine Or.inl ⟨?_, ?_⟩; · rfl
                 intro w hSw; (try dsimp only at hSw); go_simp; (try with_reducible rfl); done)
          try simp only [Act.put, List.setIfInBounds_toArray, List.set_cons_zero, List.set_cons_succ]
          refine wpAnyH_take (i := 4) (oi := ?_) (v := ?_) ?_ (by kernel_rfl) (by kernel_rfl) (by kernel_rfl) ?_ ?_ (by assumption) ?_
          rotate_left 2
          · simp only [List.getElem?_toArray, List.getElem?_cons_succ, List.getElem?_cons_zero]; rfl
          · exact fun _ _ _ h => h
          · first
              | (refine Or.inr ⟨?_, ?_⟩ <;> rfl)
              | (refine Or.inl ⟨?_, ?_⟩; · rfl
                 intro w hSw; (try dsimp only at hSw); go_simp; (try with_reducible rfl); done)
          try simp only [Act.put, List.setIfInBounds_toArray, List.set_cons_zero, List.set_cons_succ]
          refine wpAnyH_take (i := 5) (oi := ?_) (v := ?_) ?_ (by kernel_rfl) (by kernel_rfl) (by kernel_rfl) ?_ ?_ (by assumption) ?_
          rotate_left 2
          · simp only [List.getElem?_toArray, List.getElem?_cons_succ, List.getElem?_cons_zero]; rfl
          · exact fun _ _ _ h => h
          · first
              | (refine Or.inr ⟨?_, ?_⟩ <;> rfl)
              | (refine Or.inl ⟨?_, ?_⟩; · rfl
                 intro w hSw; (try dsimp only at hSw); go_simp; (try with_reducible rfl); done)
          try simp only [Act.put, List.setIfInBounds_toArray, List.set_cons_zero, List.set_cons_succ]
          refine wpAnyH_ready (rs := [3]) (by kernel_rfl) (by simp) ?_
          refine AllReadyH.cons (o := ?_) ?_ (fun K hK => ?_) AllReadyH.nil
          rotate_left 1
          · simp only [List.getElem?_toArray, List.getElem?_cons_succ, List.getElem?_cons_zero]; rfl
          go_simp
          go_at_call 38
          go_must (refine Calls.mono (itoa_any m1 (by have := HMB.out; omega) (by have := HMB.out; omega) _ (HWF2.out.below ((HI1.out.bl.trans (HBd1.out.mono HI1.out.bl.size)))) ) ?_)
          rintro e wi ⟨rfl, hbi⟩
          have HBi : Hid (Below W1.heap.size W1 wi) := HBd1.out.trans (hbi.mono HBd1.out.size)
          clear hbi
          refine hK.out _ _ ?_ (fun hHeld => ?_)
          · try dsimp only
            exact HC1.out _ HBi.out
          clear hK K
          try simp only [Act.put, List.setIfInBounds_toArray, List.set_cons_zero, List.set_cons_succ]
          refine wpAnyH_take (i := 6) (oi := ?_) (v := ?_) ?_ (by kernel_rfl) (by kernel_rfl) (by kernel_rfl) ?_ ?_ (by assumption) ?_
          rotate_left 2
          · simp only [List.getElem?_toArray, List.getElem?_cons_succ, List.getElem?_cons_zero]; rfl
          · exact fun _ _ _ h => h
          · first
              | (refine Or.inr ⟨?_, ?_⟩ <;> rfl)
              | (refine Or.inl ⟨?_, ?_⟩; · rfl
                 intro w hSw; (try dsimp only at hSw); go_simp; (try with_reducible rfl); done)
          try simp only [Act.put, List.setIfInBounds_toArray, List.set_cons_zero, List.set_cons_succ]
          refine wpAnyH_ready (rs := [7]) (by kernel_rfl) (by simp) ?_
          refine AllReadyH.cons (o := ?_) ?_ (fun K hK => ?_) AllReadyH.nil
          rotate_left 1
          · simp only [List.getElem?_toArray, List.getElem?_cons_succ, List.getElem?_cons_zero]; rfl
          go_simp
          skip
          refine hK.out _ _ ?_ (fun hHeld => ?_)
          · try dsimp only
            exact HC1.out _ (HBi.out.alloc HBi.out.size _)
          clear hK K
          try simp only [Act.put, List.setIfInBounds_toArray, List.set_cons_zero, List.set_cons_succ]
          have HIi := Lib.hid (HI1.out.keep HBi.out)
          refine wpAnyH_ready (rs := [8]) (by kernel_rfl) (by simp) ?_
          refine AllReadyH.cons (o := ?_) ?_ (fun K hK => ?_) AllReadyH.nil
          rotate_left 1
          · simp only [List.getElem?_toArray, List.getElem?_cons_succ, List.getElem?_cons_zero]; rfl
          refine step_pushR (w := wi) elStr rfl (.tmp 47) (.tmp 54) rfl HIi.out.ow rfl [.string (itT m1 ++ l1)] rfl (fun q hq => by
            obtain rfl : q = 0 := by omega
            simp [HTX.out]) (fun _ _ => rfl) (by unfold maxLen; omega) (by omega) ?_
          intro g' c' wa HA hgr hd
          have HI2 := HIi.out.push HA hgr (hd.imp And.left Nat.le_of_lt)
          have HSW : Hid (wa.cell? ⟨wr.heap.size, 0, none⟩ = some (.int .i64 m1) ∧ wa.cell? ⟨wr.heap.size, 1, none⟩ = some (.string l1)) := ⟨((HX.out.below HBi.out HX.out.lt).kept hgr (by simp; omega)).cell 0, ((HX.out.below HBi.out HX.out.lt).kept hgr (by simp; omega)).cell 1⟩
          clear HA hgr hd
          refine hK.out _ _ HSW.out (fun hHeld => ?_)
          clear hK K
          try simp only [Act.put, List.setIfInBounds_toArray, List.set_cons_zero, List.set_cons_succ]
          refine wpAnyH_take (i := 9) (oi := ?_) (v := ?_) ?_ (by kernel_rfl) (by kernel_rfl) (by kernel_rfl) ?_ ?_ (by assumption) ?_
          rotate_left 2
          · simp only [List.getElem?_toArray, List.getElem?_cons_succ, List.getElem?_cons_zero]; rfl
          · exact fun _ _ _ h => h
          · first
              | (refine Or.inr ⟨?_, ?_⟩ <;> rfl)
              | (refine Or.inl ⟨?_, ?_⟩; · rfl
                 intro w hSw; (try dsimp only at hSw); go_simp; (try with_reducible rfl); done)
          try simp only [Act.put, List.setIfInBounds_toArray, List.set_cons_zero, List.set_cons_succ]
          refine wpAnyH_done (by kernel_rfl) ?_ _
          go_wp2_with fail
          go_roundw
          case rel => exact ⟨j + 1, g', c', by omega, by go_num, by simp, HI2⟩
          case measure => simp [intOf]; omega
        · obtain rfl : j = xs.length := by omega
          have HJ := Lib.hid (join_any g cap xs.length (bkW xs) wr (by omega) HBS.out HI.out.ow)
          go_wp2_with fail
          refine HJ.out.mono ?_
          rintro e w3 ⟨rfl, hb3⟩
          have HB3 := Lib.hid (HB2.out.trans ((HI.out.bl.trans (hb3.mono HI.out.bl.size)).mono HB2.out.size))
          clear hb3
          go_wp2_with fail
          go_ret
          exact ⟨by rw [HBO.out, if_pos HBG.out]; rfl, own, HS.out.keep (Fr.of_below HB3.out _), Fr.of_below HB3.out own, fun _ hq => .inl hq⟩
  · have hk2 : (st.x.n : Int) ≤ nmF l := by omega
    rw [show decide (nmF l < (st.x.n : Int)) = false from decide_eq_false hk, Bool.false_and] at HBG
    go_wp2_with fail
    go_ret
    exact HNO.out _ _ (Below.refl _ _) HBG.out rfl
end Go.Proofs.YtlkdmpfifpkpaaaGreatDoor
