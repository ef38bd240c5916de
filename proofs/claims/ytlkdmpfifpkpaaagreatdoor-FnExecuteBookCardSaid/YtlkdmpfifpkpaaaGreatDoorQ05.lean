/-
  Parts of the proof of fnExecuteBook_proved: Kd Ke Kn Bn Bl Cb Cl Lp Ra Rb. No condition.
-/
import Derived.Laws.BitsAllLaws
import Derived.WalkKit
import Derived.WalkSpells
import Derived.WalkLawsBesides
import Derived.Lib.Hide
import Derived.BigQuiet
import Derived.Deep.QuietTactic
import Derived.Deep.RegionHeld3
import Derived.Deep.DeepFit
import Derived.Deep.RegionWith
import Derived.Test.YtlkdmpfifpkpaaaGreatDoorChecked
import Derived.Lib.Strings
import Derived.Lib.Builder
import Derived.Lib.AppendStr
import Derived.Lib.UnsafeStr
import Derived.Lib.Slices
import Derived.Laws.Externs
import Derived.Shelf.Strings.Builder1
import Derived.Shelf.Strings.Builder2
import Derived.Shelf.Strings.OnBuilder
import Derived.Shelf.Strings.BuilderF
import Derived.Shelf.Strconv.Itoa0
import Derived.Shelf.Strconv.Itoa1
import Derived.Shelf.LaysM
import Derived.Shelf.Strconv.Itoa2
import Derived.Shelf.Strconv.Itoa3
import Derived.Shelf.Strings.Search1
import Derived.Shelf.Strings.Search2
import Derived.Shelf.Strings.Search3
import Derived.Shelf.Strings.Count
import Derived.Shelf.Strings.Shaped
import Derived.Shelf.Strings.Split
import Derived.Shelf.Strings.SplitShaped
import Derived.Shelf.Unicode.DecodeSlow
import Derived.Test.YtlkdmpfifpkpaaaGreatDoorProg
import Derived.Lib.IndexLaws
import Derived.Lib.SlBytesRow
import Derived.Deep.DeepCutAuto
import Derived.Test.YtlkdmpfifpkpaaaGreatDoorQ01
import Derived.Test.YtlkdmpfifpkpaaaGreatDoorQ02
import Derived.Test.YtlkdmpfifpkpaaaGreatDoorQ03
import Derived.Test.YtlkdmpfifpkpaaaGreatDoorQ04
namespace Go.Proofs.YtlkdmpfifpkpaaaGreatDoor
open Go.RowKit

/-- the boxes of the reference's run -/
structure SrM (w wr : World) (q : Nat) : Prop where
  box : Bx wr w.heap.size 76 #[.int .i64 (stB q).n, .bool (stB q).i, .bool (stB q).o]
  res : Bx wr (w.heap.size + 1) 76 #[.int .i64 0, .bool false, .bool false]
  bl : Below w.heap.size w wr
theorem SrM.below {w wr w' : World} {q : Nat} (h : SrM w wr q) (hb : Below wr.heap.size wr w') : SrM w w' q :=
  ⟨h.box.below hb h.box.lt, h.res.below hb h.res.lt, h.bl.trans (hb.mono h.bl.size)⟩
theorem SrM.sz {w wr : World} {q : Nat} (h : SrM w wr q) : w.heap.size + 1 < wr.heap.size := h.res.lt
theorem SrM.done {w wr : World} {q : Nat} (h : SrM w wr q) (a b c : Value) : Below w.heap.size w (((wr.setCell ⟨w.heap.size + 1, 0, none⟩ a).setCell ⟨w.heap.size + 1, 1, none⟩ b).setCell ⟨w.heap.size + 1, 2, none⟩ c) :=
  ((h.bl.setCell (by dsimp only; omega) _).setCell (by dsimp only; omega) _).setCell (by dsimp only; omega) _
theorem SrM.next {w wr : World} {q j : Nat} (h : SrM w wr q) : SrM w (((wr.setCell ⟨w.heap.size, 0, none⟩ (.int .i64 (stB j).n)).setCell ⟨w.heap.size, 1, none⟩ (.bool (stB j).i)).setCell ⟨w.heap.size, 2, none⟩ (.bool (stB j).o)) j := by
  refine ⟨?_, ((h.res.setOther (by dsimp only; omega) _).setOther (by dsimp only; omega) _).setOther (by dsimp only; omega) _, ((h.bl.setCell (Nat.le_refl _) _).setCell (Nat.le_refl _) _).setCell (Nat.le_refl _) _⟩
  have := ((h.box.set 0 (.int .i64 (stB j).n)).set 1 (.bool (stB j).i)).set 2 (.bool (stB j).o)
  simpa using this
theorem bx3n {w : World} {b : Nat} {t : TypeId} {v0 v1 v2 : Value} (h : Bx w b t #[v0, v1, v2]) (u0 u1 u2 : Value) : Bx (((w.setCell ⟨b, 0, none⟩ u0).setCell ⟨b, 1, none⟩ u1).setCell ⟨b, 2, none⟩ u2) b t #[u0, u1, u2] := by
  have := ((h.set 0 u0).set 1 u1).set 2 u2
  simpa using this
set_option linter.unusedSimpArgs false in
set_option maxRecDepth 100000 in
set_option maxHeartbeats 4000000 in
theorem specRun_any (n : Int) (i o : Bool) (t : ByteArray) (w : World) :
    Calls Tryz.prog 52 #[.agg #[.int .i64 n, .bool i, .bool o], .string t] w (BsRes (brJ n i o t) w) := by
  by_cases h5 : ¬ stI n i o < 5
  · have HM0 := Lib.hid (BsM.new w n i o)
    have HJ := Lib.hid (brJ_no (t := t) h5)
    have HD : Hid (decide (stI n i o < 5) = false) := decide_eq_false h5
    clear h5
    go_enter Tryz.func52, Tryz.ntmps52
    go_wp2_with fail
    refine (specPossible_any n i o _).mono ?_
    rintro e w1 ⟨rfl, hb⟩
    have HM := Lib.hid (HM0.out.below hb rfl)
    have hrc := HM.out.res.cell
    have hrf := HM.out.res.free
    clear hb
    rw [HD.out]
    go_wp2_with fail
    exact bodyPost_ret (v := .tuple #[.agg #[.int .i64 0, .bool false, .bool false], .bool false]) (by simp [results, Tryz.results52, go_sem, hrc]) rfl ⟨by rw [HJ.out]; rfl, HM.out.done _ _ _⟩
  replace h5 := Decidable.not_not.1 h5
  have HD : Hid (decide (stI n i o < 5) = true) := decide_eq_true h5
  by_cases h30 : (30 : Int) < (t.size : Int)
  · have HM0 := Lib.hid (BsM.new w n i o)
    have HJ := Lib.hid (brJ_long (n := n) (i := i) (o := o) (t := t) (by omega))
    go_enter Tryz.func52, Tryz.ntmps52
    go_wp2_with fail
    refine (specPossible_any n i o _).mono ?_
    rintro e w1 ⟨rfl, hb⟩
    have HM := Lib.hid (HM0.out.below hb rfl)
    have hrc := HM.out.res.cell
    have hrf := HM.out.res.free
    clear hb
    rw [HD.out]
    go_wp2_with fail
    exact bodyPost_ret (v := .tuple #[.agg #[.int .i64 0, .bool false, .bool false], .bool false]) (by simp [results, Tryz.results52, go_sem, hrc]) rfl ⟨by rw [HJ.out]; rfl, HM.out.done _ _ _⟩
  have HBJ := Lib.hid (brJ_yes (n := n) (i := i) (o := o) (t := t) (by omega))
  obtain ⟨q0, hq0⟩ : ∃ q0, q0 = stI n i o := ⟨_, rfl⟩
  obtain ⟨e1, e2, e3⟩ := stI_B hq0.symm (by omega)
  have HPO : Hid (∀ W, Calls Tryz.prog 68 #[.agg #[.int .i64 n, .bool i, .bool o]] W fun e w' => e = .returned (.bool true) ∧ Below W.heap.size W w') := fun W => (specPossible_any n i o W).mono fun e w' h => by rw [HD.out] at h; exact h
  rw [← hq0] at HBJ h5
  have HM0 := Lib.hid (BsM.new w n i o)
  clear HD hq0
  subst e1 e2 e3
  go_enter Tryz.func52, Tryz.ntmps52
  go_wp2_with fail
  refine (HPO.out _).mono ?_
  rintro e w1 ⟨rfl, hb⟩
  have HM1 := Lib.hid (HM0.out.below hb rfl)
  have HM2 : Hid (SrM w w1 q0) := ⟨HM1.out.box, HM1.out.res, HM1.out.bl⟩
  clear hb HM1 HM0
  go_wp2_with fail
  go_loopw [6, 7, 8] (fun i' _ _ wr => ∃ k : Nat, k ≤ t.size ∧ i' = .int .i64 k ∧ ∃ q, Hid (rnS q0 (t.data.toList.take k) = q) ∧ q < 5 ∧ Hid (SrM w wr q)) (fun i' _ _ _ => t.size - (intOf i').toNat)
  case atStart => exact ⟨0, Nat.zero_le _, rfl, _, Lib.hid rfl, h5, HM2⟩
  case round =>
    obtain ⟨k, hk, rfl, q, HQ, hq5, HM⟩ := hrel
    have hbc := HM.out.box.cell
    have hsz := HM.out.sz
    by_cases hlt : k < t.size
    · have hlt' : (k : Int) < (t.size : Int) := by omega
      have hbt := bt_at hlt
      have HNX : Hid (rnS q0 (t.data.toList.take (k + 1)) = nx q (bt t k)) := by show _ = _; rw [rnS_take hlt, HQ.out]
      have HL3 : Hid (∀ W, Calls Tryz.prog 69 #[.agg #[.int .i64 (stB q).n, .bool (stB q).i, .bool (stB q).o], .int .u8 (bt t k)] W fun e w' => e = .returned (.tuple #[bsV (nx q (bt t k)), .bool (decide (nx q (bt t k) < 5))]) ∧ Below W.heap.size W w') := fun W => l3Step_any q (bt t k) W hq5
      have hle := nx_le q (bt t k)
      by_cases hn : nx q (bt t k) < 5
      · have HV : Hid (bsV (nx q (bt t k)) = .agg #[.int .i64 (stB (nx q (bt t k))).n, .bool (stB (nx q (bt t k))).i, .bool (stB (nx q (bt t k))).o]) := if_pos hn
        have HN : Hid (decide (nx q (bt t k) < 5) = true) := decide_eq_true hn
        go_wp2_with fail
        refine wp_region_held_drew (S := (fun w' => w'.cell? ⟨w.heap.size, 0, none⟩ = some (.int .i64 (stB q).n) ∧ w'.cell? ⟨w.heap.size, 1, none⟩ = some (.bool (stB q).i) ∧ w'.cell? ⟨w.heap.size, 2, none⟩ = some (.bool (stB q).o))) (by kernel_rfl) ?_ (fun hHeld => ?_)
        · try dsimp only
          go_keep
        refine wpAnyH_take (i := 0) (oi := ?_) (v := ?_) ?_ (by kernel_rfl) (by kernel_rfl) (by kernel_rfl) ?_ ?_ (by assumption) ?_
        rotate_left 2
        · simp only [List.getElem?_toArray, List.getElem?_cons_succ, List.getElem?_cons_zero]; rfl
        · exact fun _ _ _ h => h
        · first
            | (refine Or.inr ⟨?_, ?_⟩ <;> rfl)
            | (refine Or.inl ⟨?_, ?_⟩; · rfl
               intro w hSw; (try dsimp only at hSw); go_simp; (try with_reducible rfl); done)
        try simp only [Act.put, List.setIfInBounds_toArray, List.set_cons_zero, List.set_cons_succ]
        refine wpAnyH_take (i := 1) (oi := ?_) (v := ?_) ?_ (by kernel_rfl) (by kernel_rfl) (by kernel_rfl) ?_ ?_ (by assumption) ?_
        rotate_left 2
        · simp only [List.getElem?_toArray, List.getElem?_cons_succ, List.getElem?_cons_zero]; rfl
        · exact fun _ _ _ h => h
        · first
            | (refine Or.inr ⟨?_, ?_⟩ <;> rfl)
            | (refine Or.inl ⟨?_, ?_⟩; · rfl
               intro w hSw; (try dsimp only at hSw); go_simp; (try with_reducible rfl); done)
        try simp only [Act.put, List.setIfInBounds_toArray, List.set_cons_zero, List.set_cons_succ]
        refine wpAnyH_take (i := 2) (oi := ?_) (v := ?_) ?_ (by kernel_rfl) (by kernel_rfl) (by kernel_rfl) ?_ ?_ (by assumption) ?_
        rotate_left 2
        · simp only [List.getElem?_toArray, List.getElem?_cons_succ, List.getElem?_cons_zero]; rfl
        · exact fun _ _ _ h => h
        · first
            | (refine Or.inr ⟨?_, ?_⟩ <;> rfl)
            | (refine Or.inl ⟨?_, ?_⟩; · rfl
               intro w hSw; (try dsimp only at hSw); go_simp; (try with_reducible rfl); done)
        try simp only [Act.put, List.setIfInBounds_toArray, List.set_cons_zero, List.set_cons_succ]
        refine wpAnyH_take (i := 3) (oi := ?_) (v := ?_) ?_ (by kernel_rfl) (by kernel_rfl) (by kernel_rfl) ?_ ?_ (by assumption) ?_
        rotate_left 2
        · simp only [List.getElem?_toArray, List.getElem?_cons_succ, List.getElem?_cons_zero]; rfl
        · exact fun _ _ _ h => h
        · first
            | (refine Or.inr ⟨?_, ?_⟩ <;> rfl)
            | (refine Or.inl ⟨?_, ?_⟩; · rfl
               intro w hSw; (try dsimp only at hSw); go_simp; (try with_reducible rfl); done)
        try simp only [Act.put, List.setIfInBounds_toArray, List.set_cons_zero, List.set_cons_succ]
        have HSK : Hid (∀ W, Below wr.heap.size wr W → W.cell? ⟨w.heap.size, 0, none⟩ = some (.int .i64 (stB q).n) ∧ W.cell? ⟨w.heap.size, 1, none⟩ = some (.bool (stB q).i) ∧ W.cell? ⟨w.heap.size, 2, none⟩ = some (.bool (stB q).o)) := fun W hW => ⟨(HM.out.below hW).box.cell 0, (HM.out.below hW).box.cell 1, (HM.out.below hW).box.cell 2⟩
        clear hbc
        refine wpAnyH_ready (rs := [4, 8]) (by kernel_rfl) (by simp) ?_
        refine AllReadyH.cons (o := ?_) ?_ (fun K hK => ?_) ?_
        rotate_left 1
        · simp only [List.getElem?_toArray, List.getElem?_cons_succ, List.getElem?_cons_zero]; rfl
        · go_simp
          go_at_call 69
          go_must (refine Calls.mono (HL3.out _) ?_)
          rintro e w4 ⟨rfl, hb⟩
          have HB4 : Hid (Below wr.heap.size wr w4) := (Below.refl _ wr).drew.trans hb
          rw [HV.out, HN.out]
          clear hb
          refine hK.out _ _ ?_ (fun hHeld => ?_)
          · try dsimp only
            exact HSK.out _ HB4.out
          clear hK K
          try simp only [Act.put, List.setIfInBounds_toArray, List.set_cons_zero, List.set_cons_succ]
          refine wpAnyH_take (i := 5) (oi := ?_) (v := ?_) ?_ (by kernel_rfl) (by kernel_rfl) (by kernel_rfl) ?_ ?_ (by assumption) ?_
          rotate_left 2
          · simp only [List.getElem?_toArray, List.getElem?_cons_succ, List.getElem?_cons_zero]; rfl
          · exact fun _ _ _ h => h
          · first
              | (refine Or.inr ⟨?_, ?_⟩ <;> rfl)
              | (refine Or.inl ⟨?_, ?_⟩; · rfl
                 intro w hSw; (try dsimp only at hSw); go_simp; (try with_reducible rfl); done)
          try simp only [Act.put, List.setIfInBounds_toArray, List.set_cons_zero, List.set_cons_succ]
          refine wpAnyH_take (i := 6) (oi := ?_) (v := ?_) ?_ (by kernel_rfl) (by kernel_rfl) (by kernel_rfl) ?_ ?_ (by assumption) ?_
          rotate_left 2
          · simp only [List.getElem?_toArray, List.getElem?_cons_succ, List.getElem?_cons_zero]; rfl
          · exact fun _ _ _ h => h
          · first
              | (refine Or.inr ⟨?_, ?_⟩ <;> rfl)
              | (refine Or.inl ⟨?_, ?_⟩; · rfl
                 intro w hSw; (try dsimp only at hSw); go_simp; (try with_reducible rfl); done)
          try simp only [Act.put, List.setIfInBounds_toArray, List.set_cons_zero, List.set_cons_succ]
          refine wpAnyH_take (i := 7) (oi := ?_) (v := ?_) ?_ (by kernel_rfl) (by kernel_rfl) (by kernel_rfl) ?_ ?_ (by assumption) ?_
          rotate_left 2
          · simp only [List.getElem?_toArray, List.getElem?_cons_succ, List.getElem?_cons_zero]; rfl
          · exact fun _ _ _ h => h
          · first
              | (refine Or.inr ⟨?_, ?_⟩ <;> rfl)
              | (refine Or.inl ⟨?_, ?_⟩; · rfl
                 intro w hSw; (try dsimp only at hSw); go_simp; (try with_reducible rfl); done)
          try simp only [Act.put, List.setIfInBounds_toArray, List.set_cons_zero, List.set_cons_succ]
          refine wpAnyH_ready (rs := [8]) (by kernel_rfl) (by simp) ?_
          refine AllReadyH.cons (o := ?_) ?_ (fun K hK => ?_) AllReadyH.nil
          rotate_left 1
          · simp only [List.getElem?_toArray, List.getElem?_cons_succ, List.getElem?_cons_zero]; rfl
          go_simp
          skip
          refine hK.out _ _ ?_ (fun hHeld => ?_)
          · try dsimp only
            exact HSK.out _ (HB4.out.alloc HB4.out.size _)
          clear hK K
          try simp only [Act.put, List.setIfInBounds_toArray, List.set_cons_zero, List.set_cons_succ]
          refine wpAnyH_ready (rs := [9]) (by kernel_rfl) (by simp) ?_
          refine AllReadyH.cons (o := ?_) ?_ (fun K hK => ?_) AllReadyH.nil
          rotate_left 1
          · simp only [List.getElem?_toArray, List.getElem?_cons_succ, List.getElem?_cons_zero]; rfl
          go_simp
          skip
          refine hK.out _ _ ?_ (fun hHeld => ?_)
          · try dsimp only
            exact HSK.out _ (HB4.out.alloc HB4.out.size _)
          clear hK K
          try simp only [Act.put, List.setIfInBounds_toArray, List.set_cons_zero, List.set_cons_succ]
          refine wpAnyH_take (i := 10) (oi := ?_) (v := ?_) ?_ (by kernel_rfl) (by kernel_rfl) (by kernel_rfl) ?_ ?_ (by assumption) ?_
          rotate_left 2
          · simp only [List.getElem?_toArray, List.getElem?_cons_succ, List.getElem?_cons_zero]; rfl
          · exact fun _ _ _ h => h
          · first
              | (refine Or.inr ⟨?_, ?_⟩ <;> rfl)
              | (refine Or.inl ⟨?_, ?_⟩; · rfl
                 intro w hSw; (try dsimp only at hSw); go_simp; (try with_reducible rfl); done)
          try simp only [Act.put, List.setIfInBounds_toArray, List.set_cons_zero, List.set_cons_succ]
          refine wpAnyH_done (by kernel_rfl) ?_ _
          have HMz : Hid (SrM w (w4.alloc (.cells #[.int .i64 (stB (nx q (bt t k))).n, .bool (stB (nx q (bt t k))).i, .bool (stB (nx q (bt t k))).o] 76)) q) := HM.out.below (HB4.out.alloc HB4.out.size _)
          have HX : Hid (Bx (w4.alloc (.cells #[.int .i64 (stB (nx q (bt t k))).n, .bool (stB (nx q (bt t k))).i, .bool (stB (nx q (bt t k))).o] 76)) w4.heap.size 76 #[.int .i64 (stB (nx q (bt t k))).n, .bool (stB (nx q (bt t k))).i, .bool (stB (nx q (bt t k))).o]) := Bx.new _ _ _
          have hb7 : w.heap.size + 2 ≤ w4.heap.size := by have := HB4.out.size; omega
          clear HB4 HSK
          generalize w4.alloc (.cells #[.int .i64 (stB (nx q (bt t k))).n, .bool (stB (nx q (bt t k))).i, .bool (stB (nx q (bt t k))).o] 76) = W9 at *
          generalize w4.heap.size = b7 at *
          have hxc := HX.out.cell
          have hbc := HMz.out.box.cell
          have hbf := HMz.out.box.free
          have HMn := Lib.hid (HMz.out.next (j := nx q (bt t k)))
          go_wp2_with fail
          go_roundw
          case rel => exact ⟨k + 1, by omega, by go_num, nx q (bt t k), HNX, hn, HMn⟩
          case measure => simp [intOf]; omega
        · refine AllReadyH.cons (o := ?_) ?_ (fun K hK => ?_) ?_
          rotate_left 1
          · simp only [List.getElem?_toArray, List.getElem?_cons_succ, List.getElem?_cons_zero]; rfl
          · have HBA : Hid (Below wr.heap.size wr (wr.alloc (.cells #[.int .i64 0, .bool false, .bool false] 76)).drew) := (below_all wr (.cells #[.int .i64 0, .bool false, .bool false] 76)).drew
            go_simp
            skip
            refine hK.out _ _ ?_ (fun hHeld => ?_)
            · try dsimp only
              exact HSK.out _ HBA.out
            clear hK K
            try simp only [Act.put, List.setIfInBounds_toArray, List.set_cons_zero, List.set_cons_succ]
            have HXA : Hid (Bx (wr.alloc (.cells #[.int .i64 0, .bool false, .bool false] 76)).drew wr.heap.size 76 #[.int .i64 0, .bool false, .bool false]) := Bx.new wr _ _
            generalize (wr.alloc (.cells #[.int .i64 0, .bool false, .bool false] 76)).drew = WA at *
            refine wpAnyH_ready (rs := [4]) (by kernel_rfl) (by simp) ?_
            refine AllReadyH.cons (o := ?_) ?_ (fun K hK => ?_) AllReadyH.nil
            rotate_left 1
            · simp only [List.getElem?_toArray, List.getElem?_cons_succ, List.getElem?_cons_zero]; rfl
            go_simp
            go_at_call 69
            go_must (refine Calls.mono (HL3.out _) ?_)
            rintro e w4 ⟨rfl, hb⟩
            have HX4 := Lib.hid (HXA.out.below hb HXA.out.lt)
            have HB4 := Lib.hid (HBA.out.trans (hb.mono HBA.out.size))
            have hxc4 := HX4.out.cell
            have hxf4 := HX4.out.free
            rw [HV.out, HN.out]
            clear hb
            refine hK.out _ _ ?_ (fun hHeld => ?_)
            · try dsimp only
              exact HSK.out _ HB4.out
            clear hK K
            try simp only [Act.put, List.setIfInBounds_toArray, List.set_cons_zero, List.set_cons_succ]
            refine wpAnyH_take (i := 5) (oi := ?_) (v := ?_) ?_ (by kernel_rfl) (by kernel_rfl) (by kernel_rfl) ?_ ?_ (by assumption) ?_
            rotate_left 2
            · simp only [List.getElem?_toArray, List.getElem?_cons_succ, List.getElem?_cons_zero]; rfl
            · exact fun _ _ _ h => h
            · first
                | (refine Or.inr ⟨?_, ?_⟩ <;> rfl)
                | (refine Or.inl ⟨?_, ?_⟩; · rfl
                   intro w hSw; (try dsimp only at hSw); go_simp; (try with_reducible rfl); done)
            try simp only [Act.put, List.setIfInBounds_toArray, List.set_cons_zero, List.set_cons_succ]
            refine wpAnyH_take (i := 6) (oi := ?_) (v := ?_) ?_ (by kernel_rfl) (by kernel_rfl) (by kernel_rfl) ?_ ?_ (by assumption) ?_
            rotate_left 2
            · simp only [List.getElem?_toArray, List.getElem?_cons_succ, List.getElem?_cons_zero]; rfl
            · exact fun _ _ _ h => h
            · first
                | (refine Or.inr ⟨?_, ?_⟩ <;> rfl)
                | (refine Or.inl ⟨?_, ?_⟩; · rfl
                   intro w hSw; (try dsimp only at hSw); go_simp; (try with_reducible rfl); done)
            try simp only [Act.put, List.setIfInBounds_toArray, List.set_cons_zero, List.set_cons_succ]
            refine wpAnyH_take (i := 7) (oi := ?_) (v := ?_) ?_ (by kernel_rfl) (by kernel_rfl) (by kernel_rfl) ?_ ?_ (by assumption) ?_
            rotate_left 2
            · simp only [List.getElem?_toArray, List.getElem?_cons_succ, List.getElem?_cons_zero]; rfl
            · exact fun _ _ _ h => h
            · first
                | (refine Or.inr ⟨?_, ?_⟩ <;> rfl)
                | (refine Or.inl ⟨?_, ?_⟩; · rfl
                   intro w hSw; (try dsimp only at hSw); go_simp; (try with_reducible rfl); done)
            try simp only [Act.put, List.setIfInBounds_toArray, List.set_cons_zero, List.set_cons_succ]
            refine wpAnyH_ready (rs := [9]) (by kernel_rfl) (by simp) ?_
            refine AllReadyH.cons (o := ?_) ?_ (fun K hK => ?_) AllReadyH.nil
            rotate_left 1
            · simp only [List.getElem?_toArray, List.getElem?_cons_succ, List.getElem?_cons_zero]; rfl
            go_simp
            skip
            refine hK.out _ _ ?_ (fun hHeld => ?_)
            · try dsimp only
              exact HSK.out _ (((HB4.out.setCell (Nat.le_refl _) _).setCell (Nat.le_refl _) _).setCell (Nat.le_refl _) _)
            clear hK K
            try simp only [Act.put, List.setIfInBounds_toArray, List.set_cons_zero, List.set_cons_succ]
            refine wpAnyH_take (i := 10) (oi := ?_) (v := ?_) ?_ (by kernel_rfl) (by kernel_rfl) (by kernel_rfl) ?_ ?_ (by assumption) ?_
            rotate_left 2
            · simp only [List.getElem?_toArray, List.getElem?_cons_succ, List.getElem?_cons_zero]; rfl
            · exact fun _ _ _ h => h
            · first
                | (refine Or.inr ⟨?_, ?_⟩ <;> rfl)
                | (refine Or.inl ⟨?_, ?_⟩; · rfl
                   intro w hSw; (try dsimp only at hSw); go_simp; (try with_reducible rfl); done)
            try simp only [Act.put, List.setIfInBounds_toArray, List.set_cons_zero, List.set_cons_succ]
            refine wpAnyH_done (by kernel_rfl) ?_ _
            have HMz : Hid (SrM w (((w4.setCell ⟨wr.heap.size, 0, none⟩ (.int .i64 (stB (nx q (bt t k))).n)).setCell ⟨wr.heap.size, 1, none⟩ (.bool (stB (nx q (bt t k))).i)).setCell ⟨wr.heap.size, 2, none⟩ (.bool (stB (nx q (bt t k))).o)) q) := HM.out.below (((HB4.out.setCell (Nat.le_refl _) _).setCell (Nat.le_refl _) _).setCell (Nat.le_refl _) _)
            have HX := Lib.hid (bx3n HX4.out (.int .i64 (stB (nx q (bt t k))).n) (.bool (stB (nx q (bt t k))).i) (.bool (stB (nx q (bt t k))).o))
            have hb7 : w.heap.size + 2 ≤ wr.heap.size := by omega
            clear HB4 HSK HX4 HBA HXA hxc4 hxf4
            generalize ((w4.setCell ⟨wr.heap.size, 0, none⟩ (.int .i64 (stB (nx q (bt t k))).n)).setCell ⟨wr.heap.size, 1, none⟩ (.bool (stB (nx q (bt t k))).i)).setCell ⟨wr.heap.size, 2, none⟩ (.bool (stB (nx q (bt t k))).o) = W9 at *
            generalize wr.heap.size = b7 at *
            have hxc := HX.out.cell
            have hbc := HMz.out.box.cell
            have hbf := HMz.out.box.free
            have HMn := Lib.hid (HMz.out.next (j := nx q (bt t k)))
            go_wp2_with fail
            go_roundw
            case rel => exact ⟨k + 1, by omega, by go_num, nx q (bt t k), HNX, hn, HMn⟩
            case measure => simp [intOf]; omega
          · exact AllReadyH.nil
      · have HN : Hid (decide (nx q (bt t k) < 5) = false) := decide_eq_false hn
        have HV : Hid (bsV (nx q (bt t k)) = .agg #[.int .i64 0, .bool false, .bool false]) := if_neg hn
        have HJ : Hid (brJ (stB q0).n (stB q0).i (stB q0).o t = 5) := by show _ = _; rw [HBJ.out]; exact rnS_stop (k := k + 1) (by rw [HNX.out]; omega)
        go_wp2_with fail
        refine wp_region_held_drew (S := (fun w' => w'.cell? ⟨w.heap.size, 0, none⟩ = some (.int .i64 (stB q).n) ∧ w'.cell? ⟨w.heap.size, 1, none⟩ = some (.bool (stB q).i) ∧ w'.cell? ⟨w.heap.size, 2, none⟩ = some (.bool (stB q).o))) (by kernel_rfl) ?_ (fun hHeld => ?_)
        · try dsimp only
          go_keep
        refine wpAnyH_take (i := 0) (oi := ?_) (v := ?_) ?_ (by kernel_rfl) (by kernel_rfl) (by kernel_rfl) ?_ ?_ (by assumption) ?_
        rotate_left 2
        · simp only [List.getElem?_toArray, List.getElem?_cons_succ, List.getElem?_cons_zero]; rfl
        · exact fun _ _ _ h => h
        · first
            | (refine Or.inr ⟨?_, ?_⟩ <;> rfl)
            | (refine Or.inl ⟨?_, ?_⟩; · rfl
               intro w hSw; (try dsimp only at hSw); go_simp; (try with_reducible rfl); done)
        try simp only [Act.put, List.setIfInBounds_toArray, List.set_cons_zero, List.set_cons_succ]
        refine wpAnyH_take (i := 1) (oi := ?_) (v := ?_) ?_ (by kernel_rfl) (by kernel_rfl) (by kernel_rfl) ?_ ?_ (by assumption) ?_
        rotate_left 2
        · simp only [List.getElem?_toArray, List.getElem?_cons_succ, List.getElem?_cons_zero]; rfl
        · exact fun _ _ _ h => h
        · first
            | (refine Or.inr ⟨?_, ?_⟩ <;> rfl)
            | (refine Or.inl ⟨?_, ?_⟩; · rfl
               intro w hSw; (try dsimp only at hSw); go_simp; (try with_reducible rfl); done)
        try simp only [Act.put, List.setIfInBounds_toArray, List.set_cons_zero, List.set_cons_succ]
        refine wpAnyH_take (i := 2) (oi := ?_) (v := ?_) ?_ (by kernel_rfl) (by kernel_rfl) (by kernel_rfl) ?_ ?_ (by assumption) ?_
        rotate_left 2
        · simp only [List.getElem?_toArray, List.getElem?_cons_succ, List.getElem?_cons_zero]; rfl
        · exact fun _ _ _ h => h
        · first
            | (refine Or.inr ⟨?_, ?_⟩ <;> rfl)
            | (refine Or.inl ⟨?_, ?_⟩; · rfl
               intro w hSw; (try dsimp only at hSw); go_simp; (try with_reducible rfl); done)
        try simp only [Act.put, List.setIfInBounds_toArray, List.set_cons_zero, List.set_cons_succ]
        refine wpAnyH_take (i := 3) (oi := ?_) (v := ?_) ?_ (by kernel_rfl) (by kernel_rfl) (by kernel_rfl) ?_ ?_ (by assumption) ?_
        rotate_left 2
        · simp only [List.getElem?_toArray, List.getElem?_cons_succ, List.getElem?_cons_zero]; rfl
        · exact fun _ _ _ h => h
        · first
            | (refine Or.inr ⟨?_, ?_⟩ <;> rfl)
            | (refine Or.inl ⟨?_, ?_⟩; · rfl
               intro w hSw; (try dsimp only at hSw); go_simp; (try with_reducible rfl); done)
        try simp only [Act.put, List.setIfInBounds_toArray, List.set_cons_zero, List.set_cons_succ]
        have HSK : Hid (∀ W, Below wr.heap.size wr W → W.cell? ⟨w.heap.size, 0, none⟩ = some (.int .i64 (stB q).n) ∧ W.cell? ⟨w.heap.size, 1, none⟩ = some (.bool (stB q).i) ∧ W.cell? ⟨w.heap.size, 2, none⟩ = some (.bool (stB q).o)) := fun W hW => ⟨(HM.out.below hW).box.cell 0, (HM.out.below hW).box.cell 1, (HM.out.below hW).box.cell 2⟩
        clear hbc
        refine wpAnyH_ready (rs := [4, 8]) (by kernel_rfl) (by simp) ?_
        refine AllReadyH.cons (o := ?_) ?_ (fun K hK => ?_) ?_
        rotate_left 1
        · simp only [List.getElem?_toArray, List.getElem?_cons_succ, List.getElem?_cons_zero]; rfl
        · go_simp
          go_at_call 69
          go_must (refine Calls.mono (HL3.out _) ?_)
          rintro e w4 ⟨rfl, hb⟩
          have HB4 : Hid (Below wr.heap.size wr w4) := (Below.refl _ wr).drew.trans hb
          rw [HV.out, HN.out]
          clear hb
          refine hK.out _ _ ?_ (fun hHeld => ?_)
          · try dsimp only
            exact HSK.out _ HB4.out
          clear hK K
          try simp only [Act.put, List.setIfInBounds_toArray, List.set_cons_zero, List.set_cons_succ]
          refine wpAnyH_take (i := 5) (oi := ?_) (v := ?_) ?_ (by kernel_rfl) (by kernel_rfl) (by kernel_rfl) ?_ ?_ (by assumption) ?_
          rotate_left 2
          · simp only [List.getElem?_toArray, List.getElem?_cons_succ, List.getElem?_cons_zero]; rfl
          · exact fun _ _ _ h => h
          · first
              | (refine Or.inr ⟨?_, ?_⟩ <;> rfl)
              | (refine Or.inl ⟨?_, ?_⟩; · rfl
                 intro w hSw; (try dsimp only at hSw); go_simp; (try with_reducible rfl); done)
          try simp only [Act.put, List.setIfInBounds_toArray, List.set_cons_zero, List.set_cons_succ]
          refine wpAnyH_take (i := 6) (oi := ?_) (v := ?_) ?_ (by kernel_rfl) (by kernel_rfl) (by kernel_rfl) ?_ ?_ (by assumption) ?_
          rotate_left 2
          · simp only [List.getElem?_toArray, List.getElem?_cons_succ, List.getElem?_cons_zero]; rfl
          · exact fun _ _ _ h => h
          · first
              | (refine Or.inr ⟨?_, ?_⟩ <;> rfl)
              | (refine Or.inl ⟨?_, ?_⟩; · rfl
                 intro w hSw; (try dsimp only at hSw); go_simp; (try with_reducible rfl); done)
          try simp only [Act.put, List.setIfInBounds_toArray, List.set_cons_zero, List.set_cons_succ]
          refine wpAnyH_take (i := 7) (oi := ?_) (v := ?_) ?_ (by kernel_rfl) (by kernel_rfl) (by kernel_rfl) ?_ ?_ (by assumption) ?_
          rotate_left 2
          · simp only [List.getElem?_toArray, List.getElem?_cons_succ, List.getElem?_cons_zero]; rfl
          · exact fun _ _ _ h => h
          · first
              | (refine Or.inr ⟨?_, ?_⟩ <;> rfl)
              | (refine Or.inl ⟨?_, ?_⟩; · rfl
                 intro w hSw; (try dsimp only at hSw); go_simp; (try with_reducible rfl); done)
          try simp only [Act.put, List.setIfInBounds_toArray, List.set_cons_zero, List.set_cons_succ]
          refine wpAnyH_ready (rs := [8]) (by kernel_rfl) (by simp) ?_
          refine AllReadyH.cons (o := ?_) ?_ (fun K hK => ?_) AllReadyH.nil
          rotate_left 1
          · simp only [List.getElem?_toArray, List.getElem?_cons_succ, List.getElem?_cons_zero]; rfl
          go_simp
          skip
          refine hK.out _ _ ?_ (fun hHeld => ?_)
          · try dsimp only
            exact HSK.out _ (HB4.out.alloc HB4.out.size _)
          clear hK K
          try simp only [Act.put, List.setIfInBounds_toArray, List.set_cons_zero, List.set_cons_succ]
          refine wpAnyH_ready (rs := [9]) (by kernel_rfl) (by simp) ?_
          refine AllReadyH.cons (o := ?_) ?_ (fun K hK => ?_) AllReadyH.nil
          rotate_left 1
          · simp only [List.getElem?_toArray, List.getElem?_cons_succ, List.getElem?_cons_zero]; rfl
          go_simp
          skip
          refine hK.out _ _ ?_ (fun hHeld => ?_)
          · try dsimp only
            exact HSK.out _ (HB4.out.alloc HB4.out.size _)
          clear hK K
          try simp only [Act.put, List.setIfInBounds_toArray, List.set_cons_zero, List.set_cons_succ]
          refine wpAnyH_take (i := 10) (oi := ?_) (v := ?_) ?_ (by kernel_rfl) (by kernel_rfl) (by kernel_rfl) ?_ ?_ (by assumption) ?_
          rotate_left 2
          · simp only [List.getElem?_toArray, List.getElem?_cons_succ, List.getElem?_cons_zero]; rfl
          · exact fun _ _ _ h => h
          · first
              | (refine Or.inr ⟨?_, ?_⟩ <;> rfl)
              | (refine Or.inl ⟨?_, ?_⟩; · rfl
                 intro w hSw; (try dsimp only at hSw); go_simp; (try with_reducible rfl); done)
          try simp only [Act.put, List.setIfInBounds_toArray, List.set_cons_zero, List.set_cons_succ]
          refine wpAnyH_done (by kernel_rfl) ?_ _
          have HMz : Hid (SrM w (w4.alloc (.cells #[.int .i64 0, .bool false, .bool false] 76)) q) := HM.out.below (HB4.out.alloc HB4.out.size _)
          have HX : Hid (Bx (w4.alloc (.cells #[.int .i64 0, .bool false, .bool false] 76)) w4.heap.size 76 #[.int .i64 0, .bool false, .bool false]) := Bx.new _ _ _
          have hb7 : w.heap.size + 2 ≤ w4.heap.size := by have := HB4.out.size; omega
          clear HB4 HSK
          generalize w4.alloc (.cells #[.int .i64 0, .bool false, .bool false] 76) = W9 at *
          generalize w4.heap.size = b7 at *
          have hrc := HMz.out.res.cell
          have hrf := HMz.out.res.free
          clear HM
          have HM := HMz
          clear HMz
          go_wp2_with fail
          exact bodyPost_ret (v := .tuple #[.agg #[.int .i64 0, .bool false, .bool false], .bool false]) (by simp [results, Tryz.results52, go_sem, hrc]) rfl ⟨by rw [HJ.out]; rfl, HM.out.done _ _ _⟩
        · refine AllReadyH.cons (o := ?_) ?_ (fun K hK => ?_) ?_
          rotate_left 1
          · simp only [List.getElem?_toArray, List.getElem?_cons_succ, List.getElem?_cons_zero]; rfl
          · have HBA : Hid (Below wr.heap.size wr (wr.alloc (.cells #[.int .i64 0, .bool false, .bool false] 76)).drew) := (below_all wr (.cells #[.int .i64 0, .bool false, .bool false] 76)).drew
            go_simp
            skip
            refine hK.out _ _ ?_ (fun hHeld => ?_)
            · try dsimp only
              exact HSK.out _ HBA.out
            clear hK K
            try simp only [Act.put, List.setIfInBounds_toArray, List.set_cons_zero, List.set_cons_succ]
            have HXA : Hid (Bx (wr.alloc (.cells #[.int .i64 0, .bool false, .bool false] 76)).drew wr.heap.size 76 #[.int .i64 0, .bool false, .bool false]) := Bx.new wr _ _
            generalize (wr.alloc (.cells #[.int .i64 0, .bool false, .bool false] 76)).drew = WA at *
            refine wpAnyH_ready (rs := [4]) (by kernel_rfl) (by simp) ?_
            refine AllReadyH.cons (o := ?_) ?_ (fun K hK => ?_) AllReadyH.nil
            rotate_left 1
            · simp only [List.getElem?_toArray, List.getElem?_cons_succ, List.getElem?_cons_zero]; rfl
            go_simp
            go_at_call 69
            go_must (refine Calls.mono (HL3.out _) ?_)
            rintro e w4 ⟨rfl, hb⟩
            have HX4 := Lib.hid (HXA.out.below hb HXA.out.lt)
            have HB4 := Lib.hid (HBA.out.trans (hb.mono HBA.out.size))
            have hxc4 := HX4.out.cell
            have hxf4 := HX4.out.free
            rw [HV.out, HN.out]
            clear hb
            refine hK.out _ _ ?_ (fun hHeld => ?_)
            · try dsimp only
              exact HSK.out _ HB4.out
            clear hK K
            try simp only [Act.put, List.setIfInBounds_toArray, List.set_cons_zero, List.set_cons_succ]
            refine wpAnyH_take (i := 5) (oi := ?_) (v := ?_) ?_ (by kernel_rfl) (by kernel_rfl) (by kernel_rfl) ?_ ?_ (by assumption) ?_
            rotate_left 2
            · simp only [List.getElem?_toArray, List.getElem?_cons_succ, List.getElem?_cons_zero]; rfl
            · exact fun _ _ _ h => h
            · first
                | (refine Or.inr ⟨?_, ?_⟩ <;> rfl)
                | (refine Or.inl ⟨?_, ?_⟩; · rfl
                   intro w hSw; (try dsimp only at hSw); go_simp; (try with_reducible rfl); done)
            try simp only [Act.put, List.setIfInBounds_toArray, List.set_cons_zero, List.set_cons_succ]
            refine wpAnyH_take (i := 6) (oi := ?_) (v := ?_) ?_ (by kernel_rfl) (by kernel_rfl) (by kernel_rfl) ?_ ?_ (by assumption) ?_
            rotate_left 2
            · simp only [List.getElem?_toArray, List.getElem?_cons_succ, List.getElem?_cons_zero]; rfl
            · exact fun _ _ _ h => h
            · first
                | (refine Or.inr ⟨?_, ?_⟩ <;> rfl)
                | (refine Or.inl ⟨?_, ?_⟩; · rfl
                   intro w hSw; (try dsimp only at hSw); go_simp; (try with_reducible rfl); done)
            try simp only [Act.put, List.setIfInBounds_toArray, List.set_cons_zero, List.set_cons_succ]
            refine wpAnyH_take (i := 7) (oi := ?_) (v := ?_) ?_ (by kernel_rfl) (by kernel_rfl) (by kernel_rfl) ?_ ?_ (by assumption) ?_
            rotate_left 2
            · simp only [List.getElem?_toArray, List.getElem?_cons_succ, List.getElem?_cons_zero]; rfl
            · exact fun _ _ _ h => h
            · first
                | (refine Or.inr ⟨?_, ?_⟩ <;> rfl)
                | (refine Or.inl ⟨?_, ?_⟩; · rfl
                   intro w hSw; (try dsimp only at hSw); go_simp; (try with_reducible rfl); done)
            try simp only [Act.put, List.setIfInBounds_toArray, List.set_cons_zero, List.set_cons_succ]
            refine wpAnyH_ready (rs := [9]) (by kernel_rfl) (by simp) ?_
            refine AllReadyH.cons (o := ?_) ?_ (fun K hK => ?_) AllReadyH.nil
            rotate_left 1
            · simp only [List.getElem?_toArray, List.getElem?_cons_succ, List.getElem?_cons_zero]; rfl
            go_simp
            skip
            refine hK.out _ _ ?_ (fun hHeld => ?_)
            · try dsimp only
              exact HSK.out _ (((HB4.out.setCell (Nat.le_refl _) _).setCell (Nat.le_refl _) _).setCell (Nat.le_refl _) _)
            clear hK K
            try simp only [Act.put, List.setIfInBounds_toArray, List.set_cons_zero, List.set_cons_succ]
            refine wpAnyH_take (i := 10) (oi := ?_) (v := ?_) ?_ (by kernel_rfl) (by kernel_rfl) (by kernel_rfl) ?_ ?_ (by assumption) ?_
            rotate_left 2
            · simp only [List.getElem?_toArray, List.getElem?_cons_succ, List.getElem?_cons_zero]; rfl
            · exact fun _ _ _ h => h
            · first
                | (refine Or.inr ⟨?_, ?_⟩ <;> rfl)
                | (refine Or.inl ⟨?_, ?_⟩; · rfl
                   intro w hSw; (try dsimp only at hSw); go_simp; (try with_reducible rfl); done)
            try simp only [Act.put, List.setIfInBounds_toArray, List.set_cons_zero, List.set_cons_succ]
            refine wpAnyH_done (by kernel_rfl) ?_ _
            have HMz : Hid (SrM w (((w4.setCell ⟨wr.heap.size, 0, none⟩ (.int .i64 0)).setCell ⟨wr.heap.size, 1, none⟩ (.bool false)).setCell ⟨wr.heap.size, 2, none⟩ (.bool false)) q) := HM.out.below (((HB4.out.setCell (Nat.le_refl _) _).setCell (Nat.le_refl _) _).setCell (Nat.le_refl _) _)
            have HX := Lib.hid (bx3n HX4.out (.int .i64 0) (.bool false) (.bool false))
            have hb7 : w.heap.size + 2 ≤ wr.heap.size := by omega
            clear HB4 HSK HX4 HBA HXA hxc4 hxf4
            generalize ((w4.setCell ⟨wr.heap.size, 0, none⟩ (.int .i64 0)).setCell ⟨wr.heap.size, 1, none⟩ (.bool false)).setCell ⟨wr.heap.size, 2, none⟩ (.bool false) = W9 at *
            generalize wr.heap.size = b7 at *
            have hrc := HMz.out.res.cell
            have hrf := HMz.out.res.free
            clear HM
            have HM := HMz
            clear HMz
            go_wp2_with fail
            exact bodyPost_ret (v := .tuple #[.agg #[.int .i64 0, .bool false, .bool false], .bool false]) (by simp [results, Tryz.results52, go_sem, hrc]) rfl ⟨by rw [HJ.out]; rfl, HM.out.done _ _ _⟩
          · exact AllReadyH.nil
    · obtain rfl : k = t.size := by omega
      have HJ2 : Hid (brJ (stB q0).n (stB q0).i (stB q0).o t = q) := by show _ = _; rw [HBJ.out, ← rnS_all]; exact HQ.out
      have hrc := HM.out.res.cell
      have hrf := HM.out.res.free
      have HBV : Hid (bsV q = .agg #[.int .i64 (stB q).n, .bool (stB q).i, .bool (stB q).o]) := if_pos hq5
      have HD5 : Hid (decide (q < 5) = true) := decide_eq_true hq5
      clear HQ hq5
      go_wp2_with fail
      exact bodyPost_ret (v := .tuple #[.agg #[.int .i64 (stB q).n, .bool (stB q).i, .bool (stB q).o], .bool true]) (by simp [results, Tryz.results52, go_sem, hrc]) rfl ⟨by rw [HJ2.out, HBV.out, HD5.out], HM.out.done _ _ _⟩
set_option linter.unusedSimpArgs false in
theorem specLegal_any (t : ByteArray) (w : World) :
    Calls Tryz.prog 28 #[.string t] w fun e w' => e = .returned (.bool (lgB t)) ∧ Below w.heap.size w w' := by
  have hv : ∃ a b c, bsV (brJ 0 false false t) = .agg #[.int .i64 a, .bool b, .bool c] := by
    unfold bsV
    split
    · exact ⟨_, _, _, rfl⟩
    · exact ⟨_, _, _, rfl⟩
  obtain ⟨a, b, c, hv⟩ := hv
  have HV := Lib.hid hv
  clear hv
  go_enter Tryz.func28, Tryz.ntmps28
  go_wp2_with fail
  refine (specRun_any 0 false false t _).mono ?_
  rintro e w1 ⟨rfl, hb⟩
  have HB := Lib.hid hb
  clear hb
  rw [HV.out]
  go_wp2_with fail
  go_ret
  exact ⟨rfl, HB.out.alloc HB.out.size _⟩
end Go.Proofs.YtlkdmpfifpkpaaaGreatDoor
namespace Go.Proofs.YtlkdmpfifpkpaaaGreatDoor
open Go.RowKit

/-- a row of notes -/
def NtC (w : World) (b off : Nat) (ns : List (Int × ByteArray)) : Prop :=
  ∀ k, k < ns.length → w.cell? ⟨b, off + k * 2, none⟩ = some (.int .i64 (nM ns k)) ∧ w.cell? ⟨b, off + k * 2 + 1, none⟩ = some (.string (nL ns k))
theorem NtC.keep {w w' : World} {b off : Nat} {ns : List (Int × ByteArray)} (h : NtC w b off ns) (hb : Below w.heap.size w w') : NtC w' b off ns := fun k hk => by
  obtain ⟨h1, h2⟩ := h k hk
  have hlt : b < w.heap.size := World.block_lt_of_cell? w ⟨b, off + k * 2, none⟩ h1
  exact ⟨by rw [hb.cell (p := ⟨b, off + k * 2, none⟩) hlt]; exact h1, by rw [hb.cell (p := ⟨b, off + k * 2 + 1, none⟩) hlt]; exact h2⟩
theorem evB_of {c : UInt8} (h : c ∈ evL) : evB (chN c) = true := by
  show evL.contains c = true
  rw [List.contains_iff_mem]
  exact h
end Go.Proofs.YtlkdmpfifpkpaaaGreatDoor
namespace Go.Proofs.YtlkdmpfifpkpaaaGreatDoor
open Go.RowKit

/-- f with another value at i -/
def upd {α : Type} (f : Nat → α) (i : Nat) (v : α) (j : Nat) : α := if j = i then v else f j
/-- one byte as a text -/
def chr (c : UInt8) : ByteArray := ⟨#[c]⟩
/-- a row of moves -/
def MvsC (w : World) (b off q : Nat) (M : Nat → Int) (L : Nat → ByteArray) : Prop :=
  ∀ k, k < q → w.cell? ⟨b, off + k * 2, none⟩ = some (.int .i64 (M k)) ∧ w.cell? ⟨b, off + k * 2 + 1, none⟩ = some (.string (L k))
theorem MvsC.at {w : World} {b off q : Nat} {M : Nat → Int} {L : Nat → ByteArray} (h : MvsC w b off q M L) (k : Nat) (hk : k < q) :
    w.cell? ⟨b, off + k * 2, none⟩ = some (.int .i64 (M k)) ∧ w.cell? ⟨b, off + k * 2 + 1, none⟩ = some (.string (L k)) := h k hk
theorem MvsC.keep {w w' : World} {b off q : Nat} {M : Nat → Int} {L : Nat → ByteArray} (h : MvsC w b off q M L) (hb : Below w.heap.size w w') : MvsC w' b off q M L := fun k hk => by
  obtain ⟨h1, h2⟩ := h k hk
  have hlt : b < w.heap.size := World.block_lt_of_cell? w ⟨b, off + k * 2, none⟩ h1
  exact ⟨by rw [hb.cell (p := ⟨b, off + k * 2, none⟩) hlt]; exact h1, by rw [hb.cell (p := ⟨b, off + k * 2 + 1, none⟩) hlt]; exact h2⟩
/-- a row of moves as a value -/
def MLs (w : World) (v : Value) (n : Nat) (M : Nat → Int) (L : Nat → ByteArray) : Prop :=
  (∃ b o c, v = .slice (some ⟨b, o, none⟩) n c ∧ MvsC w b o n M L) ∨ (n = 0 ∧ ∃ ao c, v = .slice ao 0 c)
theorem MLs.keep {w w' : World} {v : Value} {n : Nat} {M : Nat → Int} {L : Nat → ByteArray} (h : MLs w v n M L) (hb : Below w.heap.size w w') : MLs w' v n M L := by
  rcases h with ⟨b, o, c, e, h⟩ | h
  · exact .inl ⟨b, o, c, e, h.keep hb⟩
  · exact .inr h
theorem MLs.shape {w : World} {v : Value} {n : Nat} {M : Nat → Int} {L : Nat → ByteArray} (h : MLs w v n M L) : ∃ ao c, v = .slice ao n c := by
  rcases h with ⟨b, o, c, e, _⟩ | ⟨rfl, ao, c, e⟩
  · exact ⟨_, _, e⟩
  · exact ⟨_, _, e⟩
/-- the cells of a row of moves -/
def mvF (M : Nat → Int) (L : Nat → ByteArray) (i : Nat) : Value := if i % 2 = 0 then .int .i64 (M (i / 2)) else .string (L (i / 2))
theorem MvsC.of_own {w : World} {g cap n : Nat} {M : Nat → Int} {L : Nat → ByteArray} {t : TypeId} (h : Own w g cap n 2 t (mvF M L)) : MvsC w g 0 n M L := fun k hk => by
  have h0 := h.cell (i := k * 2) (by omega)
  have h1 := h.cell (i := k * 2 + 1) (by omega)
  rw [Nat.zero_add]
  refine ⟨?_, ?_⟩
  · rw [h0]; unfold mvF; rw [if_pos (by omega), show k * 2 / 2 = k by omega]
  · rw [h1]; unfold mvF; rw [if_neg (by omega), show (k * 2 + 1) / 2 = k by omega]
theorem elMv : Elem Tryz.prog 151 155 (.agg #[.int .i64 0, .string ⟨#[]⟩]) 2 24 := ⟨Tryz.underlying151, by kernel_rfl, rfl, by decide⟩
/-- a row full of zero values of s cells -/
theorem own_full (w : World) (z : Array Value) (n s : Nat) (t : TypeId) (f : Nat → Value) (hc : n ≤ maxLen) (hz : z.size = s) (hs : 0 < s) (hf : ∀ i, i < n * s → z[i % s]? = some (f i)) : Own (w.alloc (.cells (madeCells z (n * s)) t)) w.heap.size n n s t f :=
  ⟨Nat.le_refl _, hc, _, heap_alloc_new _ _, by rw [size_madeCells], fun i hi => by
    have h := hf i hi
    have hm : i % s < s := Nat.mod_lt _ hs
    simp only [madeCells]
    simp [hi, hz]
    rw [Array.getElem?_eq_getElem (by omega)] at h
    simpa [Array.getD, hz, hm] using h⟩
theorem mvF_congr {M M' : Nat → Int} {L L' : Nat → ByteArray} {n : Nat} (h1 : ∀ k, k < n → M k = M' k) (h2 : ∀ k, k < n → L k = L' k) : ∀ i, i < n * 2 → mvF M L i = mvF M' L' i := fun i hi => by
  unfold mvF
  rw [h1 _ (by omega), h2 _ (by omega)]
theorem mvF_upd {M : Nat → Int} {L : Nat → ByteArray} {k : Nat} {a : Int} {b : ByteArray} (i : Nat) :
    (if i = k * 2 + 1 then Value.string b else if i = k * 2 then Value.int .i64 a else mvF M L i) = mvF (upd M k a) (upd L k b) i := by
  unfold mvF upd
  by_cases e1 : i = k * 2 + 1
  · subst e1
    rw [if_pos rfl, if_neg (by omega), if_pos (by omega)]
  rw [if_neg e1]
  by_cases e0 : i = k * 2
  · subst e0
    rw [if_pos rfl, if_pos (by omega), if_pos (by omega)]
  rw [if_neg e0]
  have h2 : i % 2 = 0 ∨ i % 2 = 1 := by omega
  rcases h2 with h | h
  · rw [if_pos h, if_pos h, if_neg (by omega)]
  · rw [if_neg (by omega), if_neg (by omega), if_neg (by omega)]
/-- a move stored into a row of moves -/
theorem Own.setMv {w : World} {g cap n : Nat} {M : Nat → Int} {L : Nat → ByteArray} {t : TypeId} (h : Own w g cap n 2 t (mvF M L)) (k : Nat) (a : Int) (b : ByteArray) :
    Own ((w.setCell ⟨g, k * 2, none⟩ (.int .i64 a)).setCell ⟨g, k * 2 + 1, none⟩ (.string b)) g cap n 2 t (mvF (upd M k a) (upd L k b)) :=
  ((h.set (k * 2) _).set (k * 2 + 1) _).congr fun i _ => mvF_upd i
theorem Own.mv {w : World} {g cap n : Nat} {M : Nat → Int} {L : Nat → ByteArray} {t : TypeId} (h : Own w g cap n 2 t (mvF M L)) {k : Nat} (hk : k < n) : w.cell? ⟨g, k * 2, none⟩ = some (.int .i64 (M k)) ∧ w.cell? ⟨g, k * 2 + 1, none⟩ = some (.string (L k)) := by
  have := (MvsC.of_own h).at k hk
  simpa using this
/-- a row of ints of its own, or nil -/
def RowI (w : World) (v : Value) (n : Nat) (f : Nat → Int) (g : Option Nat) : Prop :=
  (∃ b c, g = some b ∧ v = .slice (some ⟨b, 0, none⟩) n c ∧ Own w b c n 1 3 (fun i => .int .i64 (f i))) ∨ (g = none ∧ n = 0 ∧ v = .slice none 0 0)
theorem RowI.below {w w' : World} {v : Value} {n : Nat} {f : Nat → Int} {g : Option Nat} (h : RowI w v n f g) (hb : Below w.heap.size w w') : RowI w' v n f g := by
  rcases h with ⟨b, c, e, e2, h⟩ | h
  · exact .inl ⟨b, c, e, e2, h.below hb h.lt⟩
  · exact .inr h
theorem RowI.grown {w w' : World} {v : Value} {n : Nat} {f : Nat → Int} {g row : Option Nat} (h : RowI w v n f g) (hb : w.grownBy w' row) (hne : ∀ b, g = some b → row ≠ some b) : RowI w' v n f g := by
  rcases h with ⟨b, c, e, e2, h⟩ | h
  · exact .inl ⟨b, c, e, e2, h.kept hb (fun q => hne b e q.symm)⟩
  · exact .inr h
theorem RowI.reads {w : World} {v : Value} {n : Nat} {f : Nat → Int} {g : Option Nat} (h : RowI w v n f g) : SL w v n f := by
  rcases h with ⟨b, c, e, e2, h⟩ | ⟨e, e2, e3⟩
  · exact .inl ⟨b, 0, c, e2, IC.of_own h⟩
  · exact .inr ⟨e2, _, _, e3⟩
theorem RowI.lt {w : World} {v : Value} {n : Nat} {f : Nat → Int} {g : Option Nat} (h : RowI w v n f g) : ∀ b, g = some b → b < w.heap.size := fun b e => by
  rcases h with ⟨b', c, e1, e2, h⟩ | ⟨e1, _⟩
  · rw [e1] at e; cases e; exact h.lt
  · rw [e1] at e; cases e
theorem Bx.grown {w w' : World} {b : Nat} {t : TypeId} {cs : Array Value} {row : Option Nat} (h : Bx w b t cs) (hb : w.grownBy w' row) (hne : row ≠ some b) : Bx w' b t cs :=
  h.of_block (hb.block b h.lt (fun e => hne e.symm))
theorem mvF_one (M : Nat → Int) (L : Nat → ByteArray) (i : Nat) : (mvF M L i).oneCell' = true := by unfold mvF; split <;> rfl
/-- a row of moves of its own, told by its numbers and letters; or nil -/
def RowN (w : World) (v : Value) (q : Nat) (M : Nat → Int) (L : Nat → ByteArray) (g : Option Nat) : Prop :=
  (∃ b c, g = some b ∧ v = .slice (some ⟨b, 0, none⟩) q c ∧ Own w b c q 2 155 (mvF M L)) ∨ (g = none ∧ q = 0 ∧ v = .slice none 0 0)
theorem RowN.below {w w' : World} {v : Value} {q : Nat} {M : Nat → Int} {L : Nat → ByteArray} {g : Option Nat} (h : RowN w v q M L g) (hb : Below w.heap.size w w') : RowN w' v q M L g := by
  rcases h with ⟨b, c, e, e2, h⟩ | h
  · exact .inl ⟨b, c, e, e2, h.below hb h.lt⟩
  · exact .inr h
theorem RowN.grown {w w' : World} {v : Value} {q : Nat} {M : Nat → Int} {L : Nat → ByteArray} {g row : Option Nat} (h : RowN w v q M L g) (hb : w.grownBy w' row) (hne : ∀ b, g = some b → row ≠ some b) : RowN w' v q M L g := by
  rcases h with ⟨b, c, e, e2, h⟩ | h
  · exact .inl ⟨b, c, e, e2, h.kept hb (fun q => hne b e q.symm)⟩
  · exact .inr h
theorem RowN.reads {w : World} {v : Value} {q : Nat} {M : Nat → Int} {L : Nat → ByteArray} {g : Option Nat} (h : RowN w v q M L g) : MLs w v q M L := by
  rcases h with ⟨b, c, e, e2, h⟩ | ⟨e, e2, e3⟩
  · exact .inl ⟨b, 0, c, e2, MvsC.of_own h⟩
  · exact .inr ⟨e2, _, _, e3⟩
theorem RowN.shape {w : World} {v : Value} {q : Nat} {M : Nat → Int} {L : Nat → ByteArray} {g : Option Nat} (h : RowN w v q M L g) : ∃ ao c, v = .slice ao q c := h.reads.shape
end Go.Proofs.YtlkdmpfifpkpaaaGreatDoor
namespace Go.Proofs.YtlkdmpfifpkpaaaGreatDoor
open Go.RowKit

/-- the seven letters -/
def eL : List UInt8 := [97, 99, 101, 102, 108, 111, 114]
/-- those of the first m that a state takes -/
def nxT (k m : Nat) : List UInt8 := (eL.take m).filter (fun c => decide (nx k c.toNat < 5))
end Go.Proofs.YtlkdmpfifpkpaaaGreatDoor
namespace Go.Proofs.YtlkdmpfifpkpaaaGreatDoor
open Go.RowKit

/-- a row of blocks -/
def BkC (w : World) (b off n : Nat) (N : Nat → Int) (I O : Nat → Bool) : Prop :=
  ∀ k, k < n → w.cell? ⟨b, off + k * 3, none⟩ = some (.int .i64 (N k)) ∧ w.cell? ⟨b, off + k * 3 + 1, none⟩ = some (.bool (I k)) ∧ w.cell? ⟨b, off + k * 3 + 2, none⟩ = some (.bool (O k))
theorem BkC.at {w : World} {b off n : Nat} {N : Nat → Int} {I O : Nat → Bool} (h : BkC w b off n N I O) (k : Nat) (hk : k < n) :
    w.cell? ⟨b, off + k * 3, none⟩ = some (.int .i64 (N k)) ∧ w.cell? ⟨b, off + k * 3 + 1, none⟩ = some (.bool (I k)) ∧ w.cell? ⟨b, off + k * 3 + 2, none⟩ = some (.bool (O k)) := h k hk
theorem BkC.below {w w' : World} {b off n B : Nat} {N : Nat → Int} {I O : Nat → Bool} (h : BkC w b off n N I O) (hb : Below B w w') (hB : b < B) : BkC w' b off n N I O := fun k hk => by
  obtain ⟨h1, h2, h3⟩ := h k hk
  exact ⟨by rw [hb.cell (p := ⟨b, off + k * 3, none⟩) hB]; exact h1, by rw [hb.cell (p := ⟨b, off + k * 3 + 1, none⟩) hB]; exact h2, by rw [hb.cell (p := ⟨b, off + k * 3 + 2, none⟩) hB]; exact h3⟩

/-- how many of the first m stand at a place -/
def cntA (f : Nat → Int) (p : Int) : Nat → Nat
  | 0 => 0
  | m + 1 => cntA f p m + if f m = p then 1 else 0
theorem cntA_le (f : Nat → Int) (p : Int) : ∀ m, cntA f p m ≤ m
  | 0 => Nat.le_refl _
  | m + 1 => by
    have := cntA_le f p m
    simp only [cntA]
    split <;> omega
set_option linter.unusedSimpArgs false in
theorem count_any (r : Nat) (bv : Value) (b off n c : Nat) (f : Nat → Int) (p : Int) (w : World) (hn : n ≤ 1000000000000) (hr : Bx w r 195 #[bv, .slice (some ⟨b, off, none⟩) n c]) (hc : IC w b off n f) :
    Calls Tryz.prog 160 #[.pointer (some ⟨r, 0, none⟩), .int .i64 p] w fun e w' => e = .returned (.int .i64 (cntA f p n)) ∧ w = w' := by
  have hrc := hr.cell
  clear hr
  go_enter Tryz.func160, Tryz.ntmps160
  go_wp2_with fail
  go_loop [5, 7, 13] (fun s _ si => ∃ k : Nat, k ≤ n ∧ si = .int .i64 k ∧ s = .int .i64 (cntA f p k)) (fun _ _ si => n - (intOf si).toNat)
  case atStart => exact ⟨0, Nat.zero_le _, rfl, rfl⟩
  case round =>
    obtain ⟨k, hk, rfl, rfl⟩ := hrel
    have hle := cntA_le f p k
    by_cases hlt : k < n
    · have hck := hc.at k hlt
      by_cases h1 : f k = p
      · have h2 : (f k == p) = true := by simp [h1]
        have HE : Hid (cntA f p (k + 1) = cntA f p k + 1) := by show _ = _; simp [cntA, h1]
        clear h1
        go_wp2_with fail
        go_round
        case rel => exact ⟨k + 1, by omega, by go_num, by rw [HE.out]; go_num⟩
        case measure => simp [intOf]; omega
      · have h2 : (f k == p) = false := by simp [h1]
        have HE : Hid (cntA f p (k + 1) = cntA f p k) := by show _ = _; simp [cntA, h1]
        clear h1
        go_wp2_with fail
        go_round
        case rel => exact ⟨k + 1, by omega, by go_num, by rw [HE.out]⟩
        case measure => simp [intOf]; omega
    · have e : k = n := by omega
      subst e
      go_wp2_with fail
      go_ret
      exact ⟨rfl, rfl⟩
theorem sectionsValid_any (n : Int) (w : World) (_hn : -9223372036854775808 ≤ n ∧ n ≤ 9223372036854775807) :
    Calls Tryz.prog 42 #[.int .i64 n] w fun e w' => e = .returned (.bool (inB n 1 5)) ∧ w = w' := by
  by_cases h : 1 ≤ n
  · have g : decide (1 ≤ n) = true := decide_eq_true h
    have H : Hid (inB n 1 5 = decide (n ≤ 5)) := by show _ = _; unfold inB; rw [g]; rfl
    go_enter Tryz.func42, Tryz.ntmps42
    go_wp2
    go_ret
    exact ⟨retB (by rw [H.out]), rfl⟩
  · have g : decide (1 ≤ n) = false := decide_eq_false h
    have H : Hid (inB n 1 5 = false) := by show _ = _; unfold inB; rw [g]; rfl
    go_enter Tryz.func42, Tryz.ntmps42
    go_wp2
    go_ret
    exact ⟨retB (by rw [H.out]), rfl⟩

/-- a block of a row is possible -/
def posB (N : Nat → Int) (I O : Nat → Bool) (k : Nat) : Bool := decide (stI (N k) (I k) (O k) < 5)
set_option linter.unusedSimpArgs false in
set_option maxHeartbeats 1000000 in
theorem blkPossible_any (b off n c : Nat) (N : Nat → Int) (I O : Nat → Bool) (w : World) (hn : n ≤ 1000000000000) (hc : BkC w b off n N I O) (hb : b < w.heap.size) :
    Calls Tryz.prog 159 #[.slice (some ⟨b, off, none⟩) n c] w fun e w' => e = .returned (.bool (inB n 1 5 && allB n (posB N I O))) ∧ Below w.heap.size w w' := by
  have HC := Lib.hid hc
  have HB := Lib.hid hb
  clear hc hb
  by_cases h1 : inB n 1 5 = true
  · go_enter Tryz.func159, Tryz.ntmps159
    go_wp2_with fail
    refine (sectionsValid_any _ _ (by omega)).mono ?_
    rintro e w' ⟨rfl, rfl⟩
    rw [h1]
    have H1 := Lib.hid h1
    clear h1
    go_wp2_with fail
    go_loopw [4, 11] (fun _ si wr => ∃ k : Nat, k ≤ n ∧ si = .int .i64 k ∧ Hid (∀ j, j < k → posB N I O j = true) ∧ Hid (Below w.heap.size w wr)) (fun _ si _ => n - (intOf si).toNat)
    case atStart => exact ⟨0, Nat.zero_le _, rfl, Lib.hid (fun j hj => by omega), Lib.hid (Below.refl _ _)⟩
    case round =>
      obtain ⟨k, hk, rfl, HA, HW⟩ := hrel
      by_cases hlt : k < n
      · obtain ⟨c0, c1, c2⟩ := (HC.out.below HW.out HB.out).at k hlt
        have HWB : Hid (∀ a, Below w.heap.size w (wr.alloc a)) := fun a => HW.out.alloc HW.out.size _
        by_cases h2 : posB N I O k = true
        · have HE := Lib.hid h2
          have h3 : decide (stI (N k) (I k) (O k) < 5) = true := h2
          clear h2
          go_wp2_with fail
          refine (possible_any _ _ _ _).mono ?_
          rintro e w2 ⟨rfl, hb⟩
          have HB2 := Lib.hid ((HWB.out _).trans (hb.mono (by have := HW.out.size; simp; omega)))
          clear hb
          rw [h3]
          go_wp2_with fail
          go_roundw
          case rel => exact ⟨k + 1, by omega, by go_num, Lib.hid (fun j hj => by
              by_cases e : j = k
              · rw [e]; exact HE.out
              · exact HA.out j (by omega)), HB2⟩
          case measure => simp [intOf]; omega
        · have HE : Hid (allB n (posB N I O) = false) := allB_not hlt (by simpa using h2)
          have h3 : decide (stI (N k) (I k) (O k) < 5) = false := by simpa [posB] using h2
          clear h2
          go_wp2_with fail
          refine (possible_any _ _ _ _).mono ?_
          rintro e w2 ⟨rfl, hb⟩
          have HB2 := Lib.hid ((HWB.out _).trans (hb.mono (by have := HW.out.size; simp; omega)))
          clear hb
          rw [h3]
          go_wp2_with fail
          go_ret
          exact ⟨retB (by rw [H1.out, HE.out]; rfl), HB2.out⟩
      · have e : k = n := by omega
        subst e
        go_wp2_with fail
        go_ret
        exact ⟨retB (by rw [H1.out, allB_of HA.out]; rfl), HW.out⟩
  · replace h1 := eq_false_of_ne_true h1
    go_enter Tryz.func159, Tryz.ntmps159
    go_wp2_with fail
    refine (sectionsValid_any _ _ (by omega)).mono ?_
    rintro e w' ⟨rfl, rfl⟩
    rw [h1]
    have H1 := Lib.hid h1
    clear h1
    go_wp2_with fail
    go_ret
    exact ⟨retB (by rw [H1.out]; rfl), Below.refl _ _⟩
/-- the events that a section still needs -/
def lefV (n : Int) (i o : Bool) (t : Nat) : Int :=
  if o = true ∧ 0 < t then 5 * t - 1 else if n = 1 ∧ 0 < t then 5 * t - 2 else if i = true then 5 * t + 2 else if n = 0 ∧ i = false ∧ o = false then 5 * t else 5 * t + 1
end Go.Proofs.YtlkdmpfifpkpaaaGreatDoor
namespace Go.Proofs.YtlkdmpfifpkpaaaGreatDoor
open Go.RowKit

/-- the cells of a row of blocks -/
def bkF (N : Nat → Int) (I O : Nat → Bool) (i : Nat) : Value :=
  if i % 3 = 0 then .int .i64 (N (i / 3)) else if i % 3 = 1 then .bool (I (i / 3)) else .bool (O (i / 3))
theorem elBk : Elem Tryz.prog 28 76 (.agg #[.int .i64 0, .bool false, .bool false]) 3 16 := ⟨Tryz.underlying28, by kernel_rfl, rfl, by decide⟩
theorem bkF_one (N : Nat → Int) (I O : Nat → Bool) (i : Nat) : (bkF N I O i).oneCell' = true := by
  unfold bkF
  split
  · rfl
  · split <;> rfl
theorem bk_new {w : World} {b off n : Nat} {N : Nat → Int} {I O : Nat → Bool} (h : BkC w b off n N I O) : ∀ j, j < n * 3 → w.cell? ((⟨b, off, none⟩ : Addr).add j) = some (bkF N I O (0 * 3 + j)) := by
  intro j hj
  obtain ⟨h0, h1, h2⟩ := h (j / 3) (by omega)
  rw [addr_add, Nat.zero_mul, Nat.zero_add]
  unfold bkF
  by_cases e0 : j % 3 = 0
  · rw [if_pos e0, ← h0, show off + j / 3 * 3 = off + j by omega]
  · rw [if_neg e0]
    by_cases e1 : j % 3 = 1
    · rw [if_pos e1, ← h1, show off + j / 3 * 3 + 1 = off + j by omega]
    · rw [if_neg e1, ← h2, show off + j / 3 * 3 + 2 = off + j by omega]
theorem BkC.of_own {w : World} {g cap n : Nat} {N : Nat → Int} {I O : Nat → Bool} {t : TypeId} (h : Own w g cap n 3 t (bkF N I O)) : BkC w g 0 n N I O := fun k hk => by
  have h0 := h.cell (i := k * 3) (by omega)
  have h1 := h.cell (i := k * 3 + 1) (by omega)
  have h2 := h.cell (i := k * 3 + 2) (by omega)
  rw [Nat.zero_add]
  refine ⟨?_, ?_, ?_⟩
  · rw [h0]; unfold bkF; rw [if_pos (by omega), show k * 3 / 3 = k by omega]
  · rw [h1]; unfold bkF; rw [if_neg (by omega), if_pos (by omega), show (k * 3 + 1) / 3 = k by omega]
  · rw [h2]; unfold bkF; rw [if_neg (by omega), if_neg (by omega), show (k * 3 + 2) / 3 = k by omega]
theorem cloneB_any (b off n c : Nat) (N : Nat → Int) (I O : Nat → Bool) (w : World) (hn : n ≤ 1000000000000) (hc : BkC w b off n N I O) :
    Calls Tryz.prog 157 #[.slice (some ⟨b, off, none⟩) n c] w fun e w' => ∃ g c', e = .returned (.slice (some ⟨g, 0, none⟩) n c') ∧ w.heap.size ≤ g ∧ Own w' g c' n 3 76 (bkF N I O) ∧ Below w.heap.size w w' := by
  have hnil := fun w => Lib.run_eql_slice_nil (P := Tryz.prog) w 28 76 (some ⟨b, off, none⟩) n c 0 0 Tryz.underlying28
  have hbb : ∀ a, Below w.heap.size w (w.alloc a) := fun a => (Below.refl _ _).alloc (Nat.le_refl _) _
  have hb : b < w.heap.size ∨ n = 0 := by
    rcases Nat.eq_zero_or_pos n with h | h
    · exact Or.inr h
    · exact Or.inl (World.block_lt_of_cell? w ⟨b, off + 0 * 3, none⟩ (hc 0 h).1)
  have HC : Hid (∀ a, BkC (w.alloc a) b off n N I O) := fun a => by
    rcases hb with hb | hb
    · exact hc.below (hbb a) hb
    · intro k hk; omega
  clear hc hb
  go_enter Tryz.func157, Tryz.ntmps157
  go_wp2_with (at_builtin; refine wpList_app elBk rfl (.tmp 5) (.tmp 6) rfl (own_empty w 3 _ (bkF N I O)) rfl ⟨b, off, none⟩ n c rfl (bk_new (HC.out _)) (fun _ _ => bkF_one _ _ _ _) (by unfold maxLen; omega) (by omega) ?_; intro g' c' wa HA hgr hd)
  have z := hgr.size
  rw [World.size_alloc] at z hd
  have hle : w.heap.size ≤ g' := by omega
  have hbl := (hbb (.cells #[] 76)).trans (below_of_grown hgr (Nat.le_refl _) (by simp))
  rw [Nat.zero_add] at HA
  have HO := Lib.hid HA
  have HBL := Lib.hid hbl
  clear HA hbl hgr hd
  go_wp2_with fail
  go_ret
  exact ⟨g', c', by simp, hle, HO.out, HBL.out⟩
end Go.Proofs.YtlkdmpfifpkpaaaGreatDoor
namespace Go.Proofs.YtlkdmpfifpkpaaaGreatDoor
open Go.RowKit

theorem ic_new {w : World} {b off n : Nat} {f : Nat → Int} (h : IC w b off n f) : ∀ j, j < n * 1 → w.cell? ((⟨b, off, none⟩ : Addr).add j) = some ((fun i => Value.int .i64 (f i)) (0 * 1 + j)) := by
  intro j hj
  rw [addr_add, h j (by omega)]
  simp

theorem clone_any (b off n c : Nat) (f : Nat → Int) (w : World) (hn : n ≤ 1000000000000) (hc : IC w b off n f) :
    Calls Tryz.prog 158 #[.slice (some ⟨b, off, none⟩) n c] w fun e w' => ∃ g c', e = .returned (.slice (some ⟨g, 0, none⟩) n c') ∧ w.heap.size ≤ g ∧ Own w' g c' n 1 3 (fun i => .int .i64 (f i)) ∧ Below w.heap.size w w' := by
  have hnil := fun w => Lib.run_eql_slice_nil (P := Tryz.prog) w 29 3 (some ⟨b, off, none⟩) n c 0 0 Tryz.underlying29
  have hbb : ∀ a, Below w.heap.size w (w.alloc a) := fun a => (Below.refl _ _).alloc (Nat.le_refl _) _
  have HC := Lib.hid hc
  clear hc
  go_enter Tryz.func158, Tryz.ntmps158
  go_wp2_with (at_builtin; refine wpList_app elInt rfl (.tmp 5) (.tmp 6) rfl (own_empty w 1 _ (fun i => .int .i64 (f i))) rfl ⟨b, off, none⟩ n c rfl (ic_new (HC.out.keep (hbb _))) (fun _ _ => rfl) (by unfold maxLen; omega) (by omega) ?_; intro g' c' wa HA hgr hd)
  have z := hgr.size
  rw [World.size_alloc] at z hd
  have hle : w.heap.size ≤ g' := by omega
  have hbl := (hbb (.cells #[] 3)).trans (below_of_grown hgr (Nat.le_refl _) (by simp))
  rw [Nat.zero_add] at HA
  have HO := Lib.hid HA
  have HBL := Lib.hid hbl
  clear HA hbl hgr hd
  go_wp2_with fail
  go_ret
  exact ⟨g', c', by simp, hle, HO.out, HBL.out⟩
end Go.Proofs.YtlkdmpfifpkpaaaGreatDoor
namespace Go.Proofs.YtlkdmpfifpkpaaaGreatDoor
open Go.RowKit

/-- a line as data: n blocks, m trains -/
structure Ln where
  n : Nat
  N : Nat → Int
  I : Nat → Bool
  O : Nat → Bool
  m : Nat
  T : Nat → Int
/-- the i-th train stands on the line, not ahead of the train before it -/
def trOk (x : Ln) (i : Nat) : Bool := inB (x.T i) 0 (2 * x.n) && (decide (i = 0) || decide (x.T i ≤ x.T (i - 1)))
/-- the k-th section has a train just where its block says so -/
def cnOk (x : Ln) (k : Nat) : Bool := decide (cntA x.T (2 * k + 1) x.m = if x.I k = true then 1 else 0)
def vldL (x : Ln) : Bool := inB x.n 1 5 && (decide (x.m ≤ 5) && (allB x.n (posB x.N x.I x.O) && (allB x.m (trOk x) && allB x.n (cnOk x))))
theorem vldL_true {x : Ln} (h : vldL x = true) : 1 ≤ x.n ∧ x.n ≤ 5 ∧ x.m ≤ 5 ∧ (∀ k, k < x.n → posB x.N x.I x.O k = true) ∧ (∀ i, i < x.m → trOk x i = true) ∧ (∀ k, k < x.n → cnOk x k = true) := by
  simp only [vldL, Bool.and_eq_true, inB_true, decide_eq_true_eq, allB_true] at h
  obtain ⟨⟨h1, h2⟩, h3, h4, h5, h6⟩ := h
  exact ⟨by omega, by omega, h3, h4, h5, h6⟩
theorem vldL_sec {x : Ln} (h : inB x.n 1 5 = false) : vldL x = false := by simp [vldL, h]
theorem vldL_many {x : Ln} (h : ¬ x.m ≤ 5) : vldL x = false := by simp [vldL, h]
theorem vldL_pos {x : Ln} (h : allB x.n (posB x.N x.I x.O) = false) : vldL x = false := by simp [vldL, h]
theorem vldL_tr {x : Ln} {i : Nat} (hi : i < x.m) (h : trOk x i = false) : vldL x = false := by simp [vldL, allB_not hi h]
theorem vldL_cn {x : Ln} {k : Nat} (hk : k < x.n) (h : cnOk x k = false) : vldL x = false := by simp [vldL, allB_not hk h]
theorem vldL_of {x : Ln} (h1 : inB x.n 1 5 = true) (h2 : x.m ≤ 5) (h3 : ∀ k, k < x.n → posB x.N x.I x.O k = true) (h4 : ∀ i, i < x.m → trOk x i = true) (h5 : ∀ k, k < x.n → cnOk x k = true) : vldL x = true := by
  simp [vldL, h1, h2, allB_of h3, allB_of h4, allB_of h5]

/-- the first of m that stands at a place; m where there is none -/
def fstA (f : Nat → Int) (p : Int) : Nat → Nat
  | 0 => 0
  | m + 1 => if fstA f p m < m then fstA f p m else if f m = p then m else m + 1
theorem fstA_le (f : Nat → Int) (p : Int) : ∀ m, fstA f p m ≤ m
  | 0 => Nat.le_refl _
  | m + 1 => by
    have := fstA_le f p m
    simp only [fstA]
    split
    · omega
    · split <;> omega
theorem fstA_at (f : Nat → Int) (p : Int) : ∀ m, fstA f p m < m → f (fstA f p m) = p
  | 0, h => by omega
  | m + 1, h => by
    have ih := fstA_at f p m
    simp only [fstA] at h ⊢
    split
    · rename_i h1; exact ih h1
    · rename_i h1
      rw [if_neg h1] at h
      split
      · rename_i h2; exact h2
      · rename_i h2; rw [if_neg h2] at h; omega
theorem fstA_none (f : Nat → Int) (p : Int) : ∀ m, (∀ j, j < m → f j ≠ p) → fstA f p m = m
  | 0, _ => rfl
  | m + 1, h => by
    have ih := fstA_none f p m (fun j hj => h j (by omega))
    simp only [fstA, ih, Nat.lt_irrefl, if_false, h m (by omega)]
theorem fstA_stop (f : Nat → Int) (p : Int) {k : Nat} (h : ∀ j, j < k → f j ≠ p) (hk : f k = p) : ∀ m, k < m → fstA f p m = k
  | 0, hm => by omega
  | m + 1, hm => by
    rcases Nat.lt_or_ge k m with h1 | h1
    · have ih := fstA_stop f p h hk m h1
      simp only [fstA, ih, h1, if_true]
    · obtain rfl : k = m := by omega
      simp only [fstA, fstA_none f p k h, Nat.lt_irrefl, if_false, hk, if_true]
def eB (l : ByteArray) : Bool := decide (l = chr 101)
def lB (l : ByteArray) : Bool := decide (l = chr 108)
/-- the place that a train leaves -/
def plI (s : Int) (l : ByteArray) : Int := if eB l = true then 2 * s else if lB l = true then 2 * s + 1 else -1
/-- the number of the state behind a move -/
def mvJ (x : Ln) (s : Int) (l : ByteArray) : Nat := bsI (x.N s.toNat) (x.I s.toNat) (x.O s.toNat) l
def mvOk (x : Ln) (s : Int) (l : ByteArray) : Bool := inB s 0 (x.n - 1) && (decide (mvJ x s l < 5) && (!(eB l || lB l) || decide (fstA x.T (plI s l) x.m < x.m)))
def mvTo (x : Ln) (s : Int) (l : ByteArray) : Ln :=
  { n := x.n, N := upd x.N s.toNat (stB (mvJ x s l)).n, I := upd x.I s.toNat (stB (mvJ x s l)).i, O := upd x.O s.toNat (stB (mvJ x s l)).o, m := x.m,
    T := if (eB l || lB l) = true then upd x.T (fstA x.T (plI s l) x.m) (plI s l + 1) else x.T }
def stepO (x : Ln) (s : Int) (l : ByteArray) : Option Ln := if mvOk x s l = true then some (mvTo x s l) else none
end Go.Proofs.YtlkdmpfifpkpaaaGreatDoor
namespace Go.Proofs.YtlkdmpfifpkpaaaGreatDoor
open Go.RowKit

/-- block r is a railway with rows of its own that hold a line -/
structure RwC (w : World) (r gb cb gt ct : Nat) (x : Ln) : Prop where
  box : Bx w r 195 #[.slice (some ⟨gb, 0, none⟩) x.n cb, .slice (some ⟨gt, 0, none⟩) x.m ct]
  bs : Own w gb cb x.n 3 76 (bkF x.N x.I x.O)
  ts : Own w gt ct x.m 1 3 (fun i => .int .i64 (x.T i))
  d1 : gb ≠ gt
  d2 : r ≠ gb
  d3 : r ≠ gt
theorem RwC.below {w w' : World} {r gb cb gt ct B : Nat} {x : Ln} (h : RwC w r gb cb gt ct x) (hb : Below B w w') (hB : w.heap.size ≤ B) : RwC w' r gb cb gt ct x :=
  ⟨h.box.below hb (Nat.lt_of_lt_of_le h.box.lt hB), h.bs.below hb (Nat.lt_of_lt_of_le h.bs.lt hB), h.ts.below hb (Nat.lt_of_lt_of_le h.ts.lt hB), h.d1, h.d2, h.d3⟩
theorem RwC.bk {w : World} {r gb cb gt ct : Nat} {x : Ln} (h : RwC w r gb cb gt ct x) : BkC w gb 0 x.n x.N x.I x.O := BkC.of_own h.bs
theorem RwC.ic {w : World} {r gb cb gt ct : Nat} {x : Ln} (h : RwC w r gb cb gt ct x) : IC w gt 0 x.m x.T := IC.of_own h.ts

theorem RwC.tr {w : World} {r gb cb gt ct : Nat} {x : Ln} (h : RwC w r gb cb gt ct x) {j : Nat} (hj : j < x.m) : w.cell? ⟨gt, j, none⟩ = some (.int .i64 (x.T j)) := h.ts.cell1 hj
theorem RwC.bl {w : World} {r gb cb gt ct : Nat} {x : Ln} (h : RwC w r gb cb gt ct x) {k : Nat} (hk : k < x.n) : w.cell? ⟨gb, k * 3, none⟩ = some (.int .i64 (x.N k)) ∧ w.cell? ⟨gb, k * 3 + 1, none⟩ = some (.bool (x.I k)) ∧ w.cell? ⟨gb, k * 3 + 2, none⟩ = some (.bool (x.O k)) := by
  have := h.bk.at k hk
  simpa using this

/-- what slices.Index gives -/
def idxI (f : Nat → Int) (p : Int) (n : Nat) : Int := if fstA f p n < n then fstA f p n else -1
theorem index_any (b off n c : Nat) (f : Nat → Int) (p : Int) (w : World) (hn : n ≤ 1000000000000) (hc : IC w b off n f) :
    Calls Tryz.prog 162 #[.slice (some ⟨b, off, none⟩) n c, .int .i64 p] w fun e w' => e = .returned (.int .i64 (idxI f p n)) ∧ w = w' := by
  go_enter Tryz.func162, Tryz.ntmps162
  go_wp2_with fail
  go_loop [5, 8] (fun _ i => ∃ k : Nat, k ≤ n ∧ i = .int .i64 k ∧ Hid (∀ j, j < k → f j ≠ p)) (fun _ i => n - (intOf i).toNat)
  case atStart => exact ⟨0, Nat.zero_le _, rfl, Lib.hid (fun j hj => by omega)⟩
  case round =>
    obtain ⟨k, hk, rfl, HA⟩ := hrel
    by_cases hlt : k < n
    · have hck := hc.at k hlt
      by_cases h1 : f k = p
      · have HE : Hid (idxI f p n = k) := by show _ = _; unfold idxI; rw [fstA_stop f p HA.out h1 n hlt, if_pos hlt]
        have h2 : (p == f k) = true := by simp [h1]
        clear h1
        go_wp2_with fail
        go_ret
        exact ⟨retI HE.out.symm, rfl⟩
      · have HE : Hid (∀ j, j < k + 1 → f j ≠ p) := fun j hj => by
          by_cases e : j = k
          · rw [e]; exact h1
          · exact HA.out j (by omega)
        have h2 : (p == f k) = false := by simp; exact fun e => h1 e.symm
        clear h1
        go_wp2_with fail
        go_round
        case rel => exact ⟨k + 1, by omega, by go_num, HE⟩
        case measure => simp [intOf]; omega
    · obtain rfl : k = n := by omega
      have HE : Hid (idxI f p k = -1) := by show _ = _; unfold idxI; rw [fstA_none f p k HA.out, if_neg (Nat.lt_irrefl _)]
      go_wp2_with fail
      go_ret
      exact ⟨retI HE.out.symm, rfl⟩

/-- how many of the first m stand at a place or before it -/
def leA (f : Nat → Int) (p : Int) : Nat → Nat
  | 0 => 0
  | m + 1 => leA f p m + if f m ≤ p then 1 else 0
/-- the moves that the first k sections still need -/
def lefS (x : Ln) : Nat → Int
  | 0 => 0
  | k + 1 => lefS x k + lefV (x.N k) (x.I k) (x.O k) (leA x.T (2 * k) x.m)
end Go.Proofs.YtlkdmpfifpkpaaaGreatDoor
namespace Go.Proofs.YtlkdmpfifpkpaaaGreatDoor
open Go.RowKit

/-- a railway in new memory -/
def RwN (B : Nat) (w : World) (s : Value) (x : Ln) : Prop :=
  ∃ r gb cb gt ct, s = .pointer (some ⟨r, 0, none⟩) ∧ RwC w r gb cb gt ct x ∧ B ≤ r ∧ B ≤ gb ∧ B ≤ gt
theorem RwN.below {B D : Nat} {w w' : World} {s : Value} {x : Ln} (h : RwN B w s x) (hb : Below D w w') (hD : w.heap.size ≤ D) : RwN B w' s x := by
  obtain ⟨r, gb, cb, gt, ct, h1, h2, h3⟩ := h
  exact ⟨r, gb, cb, gt, ct, h1, h2.below hb hD, h3⟩
/-- what railwayOf hands back -/
def RwO (x : Ln) (w : World) (e : Ending) (w' : World) : Prop :=
  Below w.heap.size w w' ∧ ((vldL x = true ∧ ∃ s, e = .returned (.tuple #[s, .bool true]) ∧ RwN w.heap.size w' s x) ∨ (vldL x = false ∧ e = .returned (.tuple #[.pointer none, .bool false])))
theorem trOk_of {x : Ln} {i : Nat} (h1 : ¬ x.T i < 0) (h2 : ¬ 2 * (x.n : Int) < x.T i) (h3 : i = 0 ∨ ¬ x.T (i - 1) < x.T i) : trOk x i = true := by
  unfold trOk
  rw [inB_true.2 (by omega)]
  rcases h3 with h | h
  · simp [h]
  · simp [show x.T i ≤ x.T (i - 1) by omega]
theorem trOk_out {x : Ln} {i : Nat} (h1 : ¬ (0 ≤ x.T i ∧ x.T i ≤ 2 * (x.n : Int))) : trOk x i = false := by
  unfold trOk
  rw [inB_false.2 h1, Bool.false_and]
theorem trOk_up {x : Ln} {i : Nat} (h0 : 0 < i) (h1 : x.T (i - 1) < x.T i) : trOk x i = false := by
  unfold trOk
  rw [decide_eq_false (show ¬ i = 0 by omega), decide_eq_false (show ¬ x.T i ≤ x.T (i - 1) by omega)]
  simp
theorem all_next {p : Nat → Bool} {k : Nat} (h : ∀ j, j < k → p j = true) (hk : p k = true) : ∀ j, j < k + 1 → p j = true := fun j hj => by
  by_cases e : j = k
  · rw [e]; exact hk
  · exact h j (by omega)
/-- between two clones of railwayOf: the box and the first row -/
theorem rw_two {w1 w2 : World} {g1 c1 g2 n1 s1 : Nat} {t1 : TypeId} {f1 : Nat → Value} (h1 : Own w1 g1 c1 n1 s1 t1 f1) (hb : Below w1.heap.size w1 w2) (hg : w1.heap.size ≤ g2) : Own w2 g1 c1 n1 s1 t1 f1 ∧ g1 ≠ g2 ∧ g1 < w2.heap.size :=
  ⟨h1.below hb h1.lt, by have := h1.lt; omega, by have := h1.lt; have := hb.size; omega⟩

set_option linter.unusedSimpArgs false in
set_option maxHeartbeats 2000000 in
theorem railwayOf_any (bb bo cb tb tu ct : Nat) (x : Ln) (w : World) (hn : x.n ≤ 1000000000000) (hm : x.m ≤ 1000000000000) (hbk : BkC w bb bo x.n x.N x.I x.O) (hic : IC w tb tu x.m x.T) :
    Calls Tryz.prog 141 #[.agg #[.slice (some ⟨bb, bo, none⟩) x.n cb, .slice (some ⟨tb, tu, none⟩) x.m ct]] w (RwO x w) := by
  have HBk := Lib.hid hbk
  have HIc := Lib.hid hic
  have HBB : Hid (∀ a, Below w.heap.size w (w.alloc a)) := fun a => below_all _ _
  have HKB : Hid (∀ w', Below w.heap.size w w' → BkC w' bb bo x.n x.N x.I x.O) := fun w' hb => by
    intro k hk
    obtain ⟨h0, h1, h2⟩ := hbk k hk
    have hlt : bb < w.heap.size := World.block_lt_of_cell? w ⟨bb, bo + k * 3, none⟩ h0
    exact ⟨by rw [hb.cell (p := ⟨bb, bo + k * 3, none⟩) hlt]; exact h0, by rw [hb.cell (p := ⟨bb, bo + k * 3 + 1, none⟩) hlt]; exact h1, by rw [hb.cell (p := ⟨bb, bo + k * 3 + 2, none⟩) hlt]; exact h2⟩
  have HKT : Hid (∀ w', Below w.heap.size w w' → IC w' tb tu x.m x.T) := fun w' hb => hic.keep hb
  clear hbk hic
  go_enter Tryz.func141, Tryz.ntmps141
  go_wp2_with fail
  have hxb : ∀ o, (w.alloc (.cells #[.slice (some ⟨bb, bo, none⟩) x.n cb, .slice (some ⟨tb, tu, none⟩) x.m ct] 31)).cell? ⟨w.heap.size, o, none⟩ = (#[.slice (some ⟨bb, bo, none⟩) x.n cb, .slice (some ⟨tb, tu, none⟩) x.m ct] : Array Value)[o]? := box_new _ _ _
  generalize hW0 : w.alloc (.cells #[.slice (some ⟨bb, bo, none⟩) x.n cb, .slice (some ⟨tb, tu, none⟩) x.m ct] 31) = W0 at *
  have HB0 : Hid (Below w.heap.size w W0) := by rw [← hW0]; exact HBB.out _
  have hz0 : W0.heap.size = w.heap.size + 1 := by rw [← hW0]; simp
  clear hW0
  refine wp_region_held_drew (S := (fun w' => w'.cell? ⟨w.heap.size, 0, none⟩ = some (.slice (some ⟨bb, bo, none⟩) x.n cb) ∧ w'.cell? ⟨w.heap.size, 1, none⟩ = some (.slice (some ⟨tb, tu, none⟩) x.m ct))) (by kernel_rfl) ?_ (fun hHeld => ?_)
  · try dsimp only
    go_keep
  refine wpAnyH_take (i := 0) (oi := ?_) (v := ?_) ?_ (by kernel_rfl) (by kernel_rfl) (by kernel_rfl) ?_ ?_ (by assumption) ?_
  rotate_left 2
  · simp only [List.getElem?_toArray, List.getElem?_cons_succ, List.getElem?_cons_zero]; rfl
  · exact fun _ _ _ h => h
  · first
      | (refine Or.inr ⟨?_, ?_⟩ <;> rfl)
      | (refine Or.inl ⟨?_, ?_⟩; · rfl
         intro w hSw; (try dsimp only at hSw); go_simp; (try with_reducible rfl); done)
  try simp only [Act.put, List.setIfInBounds_toArray, List.set_cons_zero, List.set_cons_succ]
  refine wpAnyH_take (i := 1) (oi := ?_) (v := ?_) ?_ (by kernel_rfl) (by kernel_rfl) (by kernel_rfl) ?_ ?_ (by assumption) ?_
  rotate_left 2
  · simp only [List.getElem?_toArray, List.getElem?_cons_succ, List.getElem?_cons_zero]; rfl
  · exact fun _ _ _ h => h
  · first
      | (refine Or.inr ⟨?_, ?_⟩ <;> rfl)
      | (refine Or.inl ⟨?_, ?_⟩; · rfl
         intro w hSw; (try dsimp only at hSw); go_simp; (try with_reducible rfl); done)
  try simp only [Act.put, List.setIfInBounds_toArray, List.set_cons_zero, List.set_cons_succ]
  refine wpAnyH_take (i := 3) (oi := ?_) (v := ?_) ?_ (by kernel_rfl) (by kernel_rfl) (by kernel_rfl) ?_ ?_ (by assumption) ?_
  rotate_left 2
  · simp only [List.getElem?_toArray, List.getElem?_cons_succ, List.getElem?_cons_zero]; rfl
  · exact fun _ _ _ h => h
  · first
      | (refine Or.inr ⟨?_, ?_⟩ <;> rfl)
      | (refine Or.inl ⟨?_, ?_⟩; · rfl
         intro w hSw; (try dsimp only at hSw); go_simp; (try with_reducible rfl); done)
  try simp only [Act.put, List.setIfInBounds_toArray, List.set_cons_zero, List.set_cons_succ]
  refine wpAnyH_take (i := 4) (oi := ?_) (v := ?_) ?_ (by kernel_rfl) (by kernel_rfl) (by kernel_rfl) ?_ ?_ (by assumption) ?_
  rotate_left 2
  · simp only [List.getElem?_toArray, List.getElem?_cons_succ, List.getElem?_cons_zero]; rfl
  · exact fun _ _ _ h => h
  · first
      | (refine Or.inr ⟨?_, ?_⟩ <;> rfl)
      | (refine Or.inl ⟨?_, ?_⟩; · rfl
         intro w hSw; (try dsimp only at hSw); go_simp; (try with_reducible rfl); done)
  try simp only [Act.put, List.setIfInBounds_toArray, List.set_cons_zero, List.set_cons_succ]
  refine wpAnyH_ready (rs := [2]) (by kernel_rfl) (by simp) ?_
  refine AllReadyH.cons (o := ?_) ?_ (fun K hK => ?_) AllReadyH.nil
  rotate_left 1
  · simp only [List.getElem?_toArray, List.getElem?_cons_succ, List.getElem?_cons_zero]; rfl
  go_simp
  go_at_call 157
  go_must (refine Calls.mono (cloneB_any bb bo x.n cb x.N x.I x.O _ hn (HKB.out _ HB0.out.drew)) ?_)
  rintro e w1 ⟨g1, c1, rfl, hg1, ho1, hb1⟩
  have HO1 := Lib.hid ho1
  have HB1 := Lib.hid (HB0.out.drew.trans (hb1.mono (by simp; omega)))
  have hxb1 := box_keep (w := W0.drew) hxb hb1 (by simp; omega)
  have hz1 : W0.heap.size ≤ w1.heap.size := hb1.size
  have hg1' : w.heap.size + 1 ≤ g1 := by simp at hg1; omega
  clear ho1 hb1 hg1 hxb
  refine hK.out _ _ ?_ (fun hHeld => ?_)
  · try dsimp only
    go_keep
  clear hK K
  try simp only [Act.put, List.setIfInBounds_toArray, List.set_cons_zero, List.set_cons_succ]
  refine wpAnyH_ready (rs := [5]) (by kernel_rfl) (by simp) ?_
  refine AllReadyH.cons (o := ?_) ?_ (fun K hK => ?_) AllReadyH.nil
  rotate_left 1
  · simp only [List.getElem?_toArray, List.getElem?_cons_succ, List.getElem?_cons_zero]; rfl
  go_simp
  go_at_call 158
  go_must (refine Calls.mono (clone_any tb tu x.m ct x.T _ hm (HKT.out _ HB1.out)) ?_)
  rintro e w2 ⟨g2, c2, rfl, hg2, ho2, hb2⟩
  have HO2 := Lib.hid ho2
  have HB2 := Lib.hid (HB1.out.trans (hb2.mono (by omega)))
  have HT := Lib.hid (rw_two HO1.out hb2 hg2)
  have hxb2 := box_keep (w := w1) hxb1 hb2 (by omega)
  have hz2 : w1.heap.size ≤ w2.heap.size := hb2.size
  have hg2' : w.heap.size + 1 ≤ g2 := by omega
  clear ho2 hb2 hg2 hxb1
  refine hK.out _ _ ?_ (fun hHeld => ?_)
  · try dsimp only
    go_keep
  clear hK K
  try simp only [Act.put, List.setIfInBounds_toArray, List.set_cons_zero, List.set_cons_succ]
  refine wpAnyH_take (i := 6) (oi := ?_) (v := ?_) ?_ (by kernel_rfl) (by kernel_rfl) (by kernel_rfl) ?_ ?_ (by assumption) ?_
  rotate_left 2
  · simp only [List.getElem?_toArray, List.getElem?_cons_succ, List.getElem?_cons_zero]; rfl
  · exact fun _ _ _ h => h
  · first
      | (refine Or.inr ⟨?_, ?_⟩ <;> rfl)
      | (refine Or.inl ⟨?_, ?_⟩; · rfl
         intro w hSw; (try dsimp only at hSw); go_simp; (try with_reducible rfl); done)
  try simp only [Act.put, List.setIfInBounds_toArray, List.set_cons_zero, List.set_cons_succ]
  refine wpAnyH_ready (rs := [7]) (by kernel_rfl) (by simp) ?_
  refine AllReadyH.cons (o := ?_) ?_ (fun K hK => ?_) AllReadyH.nil
  rotate_left 1
  · simp only [List.getElem?_toArray, List.getElem?_cons_succ, List.getElem?_cons_zero]; rfl
  go_simp
  skip
  refine hK.out _ _ ?_ (fun hHeld => ?_)
  · try dsimp only
    go_keep
  clear hK K
  try simp only [Act.put, List.setIfInBounds_toArray, List.set_cons_zero, List.set_cons_succ]
  refine wpAnyH_take (i := 8) (oi := ?_) (v := ?_) ?_ (by kernel_rfl) (by kernel_rfl) (by kernel_rfl) ?_ ?_ (by assumption) ?_
  rotate_left 2
  · simp only [List.getElem?_toArray, List.getElem?_cons_succ, List.getElem?_cons_zero]; rfl
  · exact fun _ _ _ h => h
  · first
      | (refine Or.inr ⟨?_, ?_⟩ <;> rfl)
      | (refine Or.inl ⟨?_, ?_⟩; · rfl
         intro w hSw; (try dsimp only at hSw); go_simp; (try with_reducible rfl); done)
  try simp only [Act.put, List.setIfInBounds_toArray, List.set_cons_zero, List.set_cons_succ]
  refine wpAnyH_done (by kernel_rfl) ?_ _
  have HM : Hid (RwC (w2.alloc (.cells #[.slice (some ⟨g1, 0, none⟩) x.n c1, .slice (some ⟨g2, 0, none⟩) x.m c2] 195)) w2.heap.size g1 c1 g2 c2 x) := by
    obtain ⟨a1, a2, a3⟩ := HT.out
    exact ⟨Bx.new _ _ _, a1.alloc _, HO2.out.alloc _, a2, by omega, by have := HO2.out.lt; omega⟩
  have HBM : Hid (∀ a, Below w.heap.size w (w2.alloc a)) := fun a => HB2.out.alloc HB2.out.size _
  have HBZ := Lib.hid (HBM.out (.cells #[.slice (some ⟨g1, 0, none⟩) x.n c1, .slice (some ⟨g2, 0, none⟩) x.m c2] 195))
  have HRN : Hid (w.heap.size ≤ w2.heap.size ∧ w.heap.size ≤ g1 ∧ w.heap.size ≤ g2) := ⟨by omega, by omega, by omega⟩
  clear HT HO1 HO2 HBM hxb2
  generalize hW2 : w2.alloc (.cells #[.slice (some ⟨g1, 0, none⟩) x.n c1, .slice (some ⟨g2, 0, none⟩) x.m c2] 195) = W2 at *
  clear hW2
  generalize hr : w2.heap.size = r at *
  clear hr
  have hrc := HM.out.box.cell
  have HPK : Hid (Calls Tryz.prog 159 #[.slice (some ⟨g1, 0, none⟩) x.n c1] W2 fun e w' => e = .returned (.bool (inB x.n 1 5 && allB x.n (posB x.N x.I x.O))) ∧ Below W2.heap.size W2 w') := blkPossible_any g1 0 x.n c1 x.N x.I x.O _ hn HM.out.bk HM.out.bs.lt
  cases hp : (inB x.n 1 5 && allB x.n (posB x.N x.I x.O))
  · have HV : Hid (vldL x = false) := by
      show _ = _
      rcases Bool.and_eq_false_iff.1 hp with h | h
      · exact vldL_sec h
      · exact vldL_pos h
    have HP := Lib.hid hp
    clear hp
    go_wp2_with fail
    refine HPK.out.mono ?_
    rintro e w3 ⟨rfl, hb3⟩
    have HB3 := Lib.hid (HBZ.out.trans (hb3.mono HBZ.out.size))
    clear hb3
    rw [HP.out]
    go_wp2_with fail
    go_ret2
    exact ⟨HB3.out, .inr ⟨HV.out, rfl⟩⟩
  have hp2 := Bool.and_eq_true_iff.1 hp
  obtain ⟨hs, hpos⟩ := hp2
  have HS := Lib.hid hs
  have HPOS := Lib.hid (allB_true.1 hpos)
  have HP := Lib.hid hp
  have hsn := (inB_true.1 hs)
  clear hp hs hpos
  go_wp2_with fail
  refine HPK.out.mono ?_
  rintro e w3 ⟨rfl, hb3⟩
  have HB3 := Lib.hid (HBZ.out.trans (hb3.mono HBZ.out.size))
  have HM3 := Lib.hid (HM.out.below hb3 (Nat.le_refl _))
  clear hb3 hrc HPK HM
  have hrc := HM3.out.box.cell
  rw [HP.out]
  by_cases h5 : ¬ x.m ≤ 5
  · have HV := Lib.hid (vldL_many h5)
    have g5 : (5 : Int) < (x.m : Int) := by omega
    clear h5
    go_wp2_with fail
    go_ret2
    exact ⟨HB3.out, .inr ⟨HV.out, rfl⟩⟩
  replace h5 := Decidable.not_not.1 h5
  have g5 : ¬ (5 : Int) < (x.m : Int) := by omega
  go_wp2_with fail
  go_loop [5, 6, 36] (fun _ _ s => ∃ i : Nat, i ≤ x.m ∧ s = .int .i64 i ∧ Hid (∀ j, j < i → trOk x j = true)) (fun _ _ s => x.m - (intOf s).toNat)
  case atStart => exact ⟨0, Nat.zero_le _, rfl, Lib.hid (fun j hj => by omega)⟩
  case round =>
    obtain ⟨i, hi, rfl, HA⟩ := hrel
    by_cases hlt : i < x.m
    · have hci := HM3.out.tr hlt
      by_cases a1 : x.T i < 0
      · have HV := Lib.hid (vldL_tr hlt (trOk_out (by omega)))
        go_wp2_with fail
        go_ret2
        exact ⟨HB3.out, .inr ⟨HV.out, rfl⟩⟩
      by_cases a2 : 2 * (x.n : Int) < x.T i
      · have HV := Lib.hid (vldL_tr hlt (trOk_out (by omega)))
        go_wp2_with fail
        go_ret2
        exact ⟨HB3.out, .inr ⟨HV.out, rfl⟩⟩
      rcases Nat.eq_zero_or_pos i with h0 | h0
      · subst h0
        have HN := Lib.hid (all_next HA.out (trOk_of a1 a2 (.inl rfl)))
        go_wp2_with fail
        go_round
        case rel => exact ⟨1, by omega, by go_num, HN⟩
        case measure => simp [intOf]; omega
      have h0' : (0 : Int) < (i : Int) := by omega
      have hcp := HM3.out.tr (j := i - 1) (by omega)
      have hkw : IntKind.i64.wrap ((i : Int) - 1) = ((i - 1 : Nat) : Int) := by rw [show ((i : Int) - 1) = ((i - 1 : Nat) : Int) from by omega]; exact IntWalk.i64_in _ (by omega)
      by_cases a3 : x.T (i - 1) < x.T i
      · have HV := Lib.hid (vldL_tr hlt (trOk_up h0 a3))
        go_wp2_with fail
        go_ret2
        exact ⟨HB3.out, .inr ⟨HV.out, rfl⟩⟩
      · have HN := Lib.hid (all_next HA.out (trOk_of a1 a2 (.inr a3)))
        go_wp2_with fail
        go_round
        case rel => exact ⟨i + 1, by omega, by go_num, HN⟩
        case measure => simp [intOf]; omega
    · obtain e : i = x.m := by omega
      subst e
      go_wp2_with fail
      go_loop [7, 8, 73] (fun _ _ s => ∃ k : Nat, k ≤ x.n ∧ s = .int .i64 k ∧ Hid (∀ j, j < k → cnOk x j = true)) (fun _ _ s => x.n - (intOf s).toNat)
      case atStart => exact ⟨0, Nat.zero_le _, rfl, Lib.hid (fun j hj => by omega)⟩
      case round =>
        obtain ⟨k, hk, rfl, HC⟩ := hrel
        by_cases hkt : k < x.n
        · obtain ⟨_, c1', _⟩ := HM3.out.bl hkt
          have HCT : Hid (∀ p : Int, Calls Tryz.prog 160 #[.pointer (some ⟨r, 0, none⟩), .int .i64 p] w3 fun e w' => e = .returned (.int .i64 (cntA x.T p x.m)) ∧ w3 = w') := fun p => count_any r _ g2 0 x.m c2 x.T p w3 (by omega) HM3.out.box HM3.out.ic
          cases hI : x.I k
          · rw [hI] at c1'
            by_cases hc : cntA x.T (2 * k + 1) x.m = 0
            · have HN := Lib.hid (all_next HC.out (show cnOk x k = true by simp [cnOk, hI, hc]))
              have HE := Lib.hid hc
              clear hc hI
              go_wp2_with fail
              refine (HCT.out _).mono ?_
              rintro e w' ⟨rfl, rfl⟩
              rw [HE.out]
              go_wp2_with fail
              go_round
              case rel => exact ⟨k + 1, by omega, by go_num, HN⟩
              case measure => simp [intOf]; omega
            · have HV := Lib.hid (vldL_cn hkt (show cnOk x k = false by simp [cnOk, hI, hc]))
              have hne : ((cntA x.T (2 * k + 1) x.m : Int) != 0) = true := by simp; exact hc
              clear hc hI
              go_wp2_with fail
              refine (HCT.out _).mono ?_
              rintro e w' ⟨rfl, rfl⟩
              go_wp2_with fail
              go_ret2
              exact ⟨HB3.out, .inr ⟨HV.out, rfl⟩⟩
          · rw [hI] at c1'
            by_cases hc : cntA x.T (2 * k + 1) x.m = 1
            · have HN := Lib.hid (all_next HC.out (show cnOk x k = true by simp [cnOk, hI, hc]))
              have HE := Lib.hid hc
              clear hc hI
              go_wp2_with fail
              refine (HCT.out _).mono ?_
              rintro e w' ⟨rfl, rfl⟩
              rw [HE.out]
              go_wp2_with fail
              go_round
              case rel => exact ⟨k + 1, by omega, by go_num, HN⟩
              case measure => simp [intOf]; omega
            · have HV := Lib.hid (vldL_cn hkt (show cnOk x k = false by simp [cnOk, hI, hc]))
              have hne : ((cntA x.T (2 * k + 1) x.m : Int) != 1) = true := by simp; omega
              clear hc hI
              go_wp2_with fail
              refine (HCT.out _).mono ?_
              rintro e w' ⟨rfl, rfl⟩
              go_wp2_with fail
              go_ret2
              exact ⟨HB3.out, .inr ⟨HV.out, rfl⟩⟩
        · obtain e : k = x.n := by omega
          subst e
          have HV := Lib.hid (vldL_of HS.out h5 HPOS.out HA.out HC.out)
          go_wp2_with fail
          go_ret2
          exact ⟨HB3.out, .inl ⟨HV.out, _, rfl, r, g1, c1, g2, c2, rfl, HM3.out, HRN.out⟩⟩
end Go.Proofs.YtlkdmpfifpkpaaaGreatDoor
