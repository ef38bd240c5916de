/-
  The reference's BlockRun and BlockLegal.
-/
import Derived.Test.YtokddeoliieofaaKc
namespace Go.Proofs.Ytokddeoliieofaa
open Go.RowKit

/-- the boxes of the reference's run -/
structure SrM (w wr : World) (q : Nat) : Prop where
  box : Bx wr w.heap.size 46 #[.int .i64 (stB q).n, .bool (stB q).i, .bool (stB q).o]
  res : Bx wr (w.heap.size + 1) 46 #[.int .i64 0, .bool false, .bool false]
  bl : Below w.heap.size w wr
theorem SrM.below {w wr w' : World} {q : Nat} (h : SrM w wr q) (hb : Below wr.heap.size wr w') : SrM w w' q :=
  ⟨h.box.below hb h.box.lt, h.res.below hb h.res.lt, h.bl.trans (hb.mono h.bl.size)⟩
theorem SrM.sz {w wr : World} {q : Nat} (h : SrM w wr q) : w.heap.size + 1 < wr.heap.size := h.res.lt
theorem SrM.done {w wr : World} {q : Nat} (h : SrM w wr q) (a b c : Value) : Below w.heap.size w (((wr.setCell ⟨w.heap.size + 1, 0, none⟩ a).setCell ⟨w.heap.size + 1, 1, none⟩ b).setCell ⟨w.heap.size + 1, 2, none⟩ c) :=
  ((h.bl.setCell (by dsimp only; omega) _).setCell (by dsimp only; omega) _).setCell (by dsimp only; omega) _
theorem SrM.next {w wr : World} {q j : Nat} (h : SrM w wr q) : SrM w (((wr.setCell ⟨w.heap.size, 0, none⟩ (.int .i64 (stB j).n)).setCell ⟨w.heap.size, 1, none⟩ (.bool (stB j).i)).setCell ⟨w.heap.size, 2, none⟩ (.bool (stB j).o)) j := by
  refine ⟨?_, ((h.res.setOther (by dsimp only; omega) _).setOther (by dsimp only; omega) _).setOther (by dsimp only; omega) _, ((h.bl.setCell (Nat.le_refl _) _).setCell (Nat.le_refl _) _).setCell (Nat.le_refl _) _⟩
  have := ((h.box.set 0 (.int .i64 (stB j).n)).set 1 (.bool (stB j).i)).set 2 (.bool (stB j).o)
  simpa using this
theorem bx3n {w : World} {b : Nat} {t : TypeId} {v0 v1 v2 : Value} (h : Bx w b t #[v0, v1, v2]) (u0 u1 u2 : Value) : Bx (((w.setCell ⟨b, 0, none⟩ u0).setCell ⟨b, 1, none⟩ u1).setCell ⟨b, 2, none⟩ u2) b t #[u0, u1, u2] := by
  have := ((h.set 0 u0).set 1 u1).set 2 u2
  simpa using this
set_option linter.unusedSimpArgs false in
set_option maxRecDepth 100000 in
set_option maxHeartbeats 4000000 in
theorem specRun_any (n : Int) (i o : Bool) (t : ByteArray) (w : World) :
    Calls Try.prog 85 #[.agg #[.int .i64 n, .bool i, .bool o], .string t] w (BsRes (brJ n i o t) w) := by
  by_cases h5 : ¬ stI n i o < 5
  · have HM0 := Lib.hid (BsM.new w n i o)
    have HJ := Lib.hid (brJ_no (t := t) h5)
    have HD : Hid (decide (stI n i o < 5) = false) := decide_eq_false h5
    clear h5
    go_enter Try.func85, Try.ntmps85
    go_wp2_with fail
    refine (specPossible_any n i o _).mono ?_
    rintro e w1 ⟨rfl, hb⟩
    have HM := Lib.hid (HM0.out.below hb rfl)
    have hrc := HM.out.res.cell
    have hrf := HM.out.res.free
    clear hb
    rw [HD.out]
    go_wp2_with fail
    exact bodyPost_ret (v := .tuple #[.agg #[.int .i64 0, .bool false, .bool false], .bool false]) (by simp [results, Try.results85, go_sem, hrc]) rfl ⟨by rw [HJ.out]; rfl, HM.out.done _ _ _⟩
  replace h5 := Decidable.not_not.1 h5
  have HD : Hid (decide (stI n i o < 5) = true) := decide_eq_true h5
  by_cases h30 : (30 : Int) < (t.size : Int)
  · have HM0 := Lib.hid (BsM.new w n i o)
    have HJ := Lib.hid (brJ_long (n := n) (i := i) (o := o) (t := t) (by omega))
    go_enter Try.func85, Try.ntmps85
    go_wp2_with fail
    refine (specPossible_any n i o _).mono ?_
    rintro e w1 ⟨rfl, hb⟩
    have HM := Lib.hid (HM0.out.below hb rfl)
    have hrc := HM.out.res.cell
    have hrf := HM.out.res.free
    clear hb
    rw [HD.out]
    go_wp2_with fail
    exact bodyPost_ret (v := .tuple #[.agg #[.int .i64 0, .bool false, .bool false], .bool false]) (by simp [results, Try.results85, go_sem, hrc]) rfl ⟨by rw [HJ.out]; rfl, HM.out.done _ _ _⟩
  have HBJ := Lib.hid (brJ_yes (n := n) (i := i) (o := o) (t := t) (by omega))
  obtain ⟨q0, hq0⟩ : ∃ q0, q0 = stI n i o := ⟨_, rfl⟩
  obtain ⟨e1, e2, e3⟩ := stI_B hq0.symm (by omega)
  have HPO : Hid (∀ W, Calls Try.prog 103 #[.agg #[.int .i64 n, .bool i, .bool o]] W fun e w' => e = .returned (.bool true) ∧ Below W.heap.size W w') := fun W => (specPossible_any n i o W).mono fun e w' h => by rw [HD.out] at h; exact h
  rw [← hq0] at HBJ h5
  have HM0 := Lib.hid (BsM.new w n i o)
  clear HD hq0
  subst e1 e2 e3
  go_enter Try.func85, Try.ntmps85
  go_wp2_with fail
  refine (HPO.out _).mono ?_
  rintro e w1 ⟨rfl, hb⟩
  have HM1 := Lib.hid (HM0.out.below hb rfl)
  have HM2 : Hid (SrM w w1 q0) := ⟨HM1.out.box, HM1.out.res, HM1.out.bl⟩
  clear hb HM1 HM0
  go_wp2_with fail
  go_loopw [6, 7, 8] (fun i' _ _ wr => ∃ k : Nat, k ≤ t.size ∧ i' = .int .i64 k ∧ ∃ q, Hid (rnS q0 (t.data.toList.take k) = q) ∧ q < 5 ∧ Hid (SrM w wr q)) (fun i' _ _ _ => t.size - (intOf i').toNat)
  case atStart => exact ⟨0, Nat.zero_le _, rfl, _, Lib.hid rfl, h5, HM2⟩
  case round =>
    obtain ⟨k, hk, rfl, q, HQ, hq5, HM⟩ := hrel
    have hbc := HM.out.box.cell
    have hsz := HM.out.sz
    by_cases hlt : k < t.size
    · have hlt' : (k : Int) < (t.size : Int) := by omega
      have hbt := bt_at hlt
      have HNX : Hid (rnS q0 (t.data.toList.take (k + 1)) = nx q (bt t k)) := by show _ = _; rw [rnS_take hlt, HQ.out]
      have HL3 : Hid (∀ W, Calls Try.prog 104 #[.agg #[.int .i64 (stB q).n, .bool (stB q).i, .bool (stB q).o], .int .u8 (bt t k)] W fun e w' => e = .returned (.tuple #[bsV (nx q (bt t k)), .bool (decide (nx q (bt t k) < 5))]) ∧ Below W.heap.size W w') := fun W => l3Step_any q (bt t k) W hq5
      have hle := nx_le q (bt t k)
      by_cases hn : nx q (bt t k) < 5
      · have HV : Hid (bsV (nx q (bt t k)) = .agg #[.int .i64 (stB (nx q (bt t k))).n, .bool (stB (nx q (bt t k))).i, .bool (stB (nx q (bt t k))).o]) := if_pos hn
        have HN : Hid (decide (nx q (bt t k) < 5) = true) := decide_eq_true hn
        go_wp2_with fail
        refine wp_region_held_drew (S := (fun w' => w'.cell? ⟨w.heap.size, 0, none⟩ = some (.int .i64 (stB q).n) ∧ w'.cell? ⟨w.heap.size, 1, none⟩ = some (.bool (stB q).i) ∧ w'.cell? ⟨w.heap.size, 2, none⟩ = some (.bool (stB q).o))) (by kernel_rfl) ?_ (fun hHeld => ?_)
        · try dsimp only
          go_keep
        refine wpAnyH_take (i := 0) (oi := ?_) (v := ?_) ?_ (by kernel_rfl) (by kernel_rfl) (by kernel_rfl) ?_ ?_ (by assumption) ?_
        rotate_left 2
        · simp only [List.getElem?_toArray, List.getElem?_cons_succ, List.getElem?_cons_zero]; rfl
        · exact fun _ _ _ h => h
        · first
            | (refine Or.inr ⟨?_, ?_⟩ <;> rfl)
            | (refine Or.inl ⟨?_, ?_⟩; · rfl
               intro w hSw; (try dsimp only at hSw); go_simp; (try with_reducible rfl); done)
        try simp only [Act.put, List.setIfInBounds_toArray, List.set_cons_zero, List.set_cons_succ]
        refine wpAnyH_take (i := 1) (oi := ?_) (v := ?_) ?_ (by kernel_rfl) (by kernel_rfl) (by kernel_rfl) ?_ ?_ (by assumption) ?_
        rotate_left 2
        · simp only [List.getElem?_toArray, List.getElem?_cons_succ, List.getElem?_cons_zero]; rfl
        · exact fun _ _ _ h => h
        · first
            | (refine Or.inr ⟨?_, ?_⟩ <;> rfl)
            | (refine Or.inl ⟨?_, ?_⟩; · rfl
               intro w hSw; (try dsimp only at hSw); go_simp; (try with_reducible rfl); done)
        try simp only [Act.put, List.setIfInBounds_toArray, List.set_cons_zero, List.set_cons_succ]
        refine wpAnyH_take (i := 2) (oi := ?_) (v := ?_) ?_ (by kernel_rfl) (by kernel_rfl) (by kernel_rfl) ?_ ?_ (by assumption) ?_
        rotate_left 2
        · simp only [List.getElem?_toArray, List.getElem?_cons_succ, List.getElem?_cons_zero]; rfl
        · exact fun _ _ _ h => h
        · first
            | (refine Or.inr ⟨?_, ?_⟩ <;> rfl)
            | (refine Or.inl ⟨?_, ?_⟩; · rfl
               intro w hSw; (try dsimp only at hSw); go_simp; (try with_reducible rfl); done)
        try simp only [Act.put, List.setIfInBounds_toArray, List.set_cons_zero, List.set_cons_succ]
        refine wpAnyH_take (i := 3) (oi := ?_) (v := ?_) ?_ (by kernel_rfl) (by kernel_rfl) (by kernel_rfl) ?_ ?_ (by assumption) ?_
        rotate_left 2
        · simp only [List.getElem?_toArray, List.getElem?_cons_succ, List.getElem?_cons_zero]; rfl
        · exact fun _ _ _ h => h
        · first
            | (refine Or.inr ⟨?_, ?_⟩ <;> rfl)
            | (refine Or.inl ⟨?_, ?_⟩; · rfl
               intro w hSw; (try dsimp only at hSw); go_simp; (try with_reducible rfl); done)
        try simp only [Act.put, List.setIfInBounds_toArray, List.set_cons_zero, List.set_cons_succ]
        have HSK : Hid (∀ W, Below wr.heap.size wr W → W.cell? ⟨w.heap.size, 0, none⟩ = some (.int .i64 (stB q).n) ∧ W.cell? ⟨w.heap.size, 1, none⟩ = some (.bool (stB q).i) ∧ W.cell? ⟨w.heap.size, 2, none⟩ = some (.bool (stB q).o)) := fun W hW => ⟨(HM.out.below hW).box.cell 0, (HM.out.below hW).box.cell 1, (HM.out.below hW).box.cell 2⟩
        clear hbc
        refine wpAnyH_ready (rs := [4, 8]) (by kernel_rfl) (by simp) ?_
        refine AllReadyH.cons (o := ?_) ?_ (fun K hK => ?_) ?_
        rotate_left 1
        · simp only [List.getElem?_toArray, List.getElem?_cons_succ, List.getElem?_cons_zero]; rfl
        · go_simp
          go_at_call 104
          go_must (refine Calls.mono (HL3.out _) ?_)
          rintro e w4 ⟨rfl, hb⟩
          have HB4 : Hid (Below wr.heap.size wr w4) := (Below.refl _ wr).drew.trans hb
          rw [HV.out, HN.out]
          clear hb
          refine hK.out _ _ ?_ (fun hHeld => ?_)
          · try dsimp only
            exact HSK.out _ HB4.out
          clear hK K
          try simp only [Act.put, List.setIfInBounds_toArray, List.set_cons_zero, List.set_cons_succ]
          refine wpAnyH_take (i := 5) (oi := ?_) (v := ?_) ?_ (by kernel_rfl) (by kernel_rfl) (by kernel_rfl) ?_ ?_ (by assumption) ?_
          rotate_left 2
          · simp only [List.getElem?_toArray, List.getElem?_cons_succ, List.getElem?_cons_zero]; rfl
          · exact fun _ _ _ h => h
          · first
              | (refine Or.inr ⟨?_, ?_⟩ <;> rfl)
              | (refine Or.inl ⟨?_, ?_⟩; · rfl
                 intro w hSw; (try dsimp only at hSw); go_simp; (try with_reducible rfl); done)
          try simp only [Act.put, List.setIfInBounds_toArray, List.set_cons_zero, List.set_cons_succ]
          refine wpAnyH_take (i := 6) (oi := ?_) (v := ?_) ?_ (by kernel_rfl) (by kernel_rfl) (by kernel_rfl) ?_ ?_ (by assumption) ?_
          rotate_left 2
          · simp only [List.getElem?_toArray, List.getElem?_cons_succ, List.getElem?_cons_zero]; rfl
          · exact fun _ _ _ h => h
          · first
              | (refine Or.inr ⟨?_, ?_⟩ <;> rfl)
              | (refine Or.inl ⟨?_, ?_⟩; · rfl
                 intro w hSw; (try dsimp only at hSw); go_simp; (try with_reducible rfl); done)
          try simp only [Act.put, List.setIfInBounds_toArray, List.set_cons_zero, List.set_cons_succ]
          refine wpAnyH_take (i := 7) (oi := ?_) (v := ?_) ?_ (by kernel_rfl) (by kernel_rfl) (by kernel_rfl) ?_ ?_ (by assumption) ?_
          rotate_left 2
          · simp only [List.getElem?_toArray, List.getElem?_cons_succ, List.getElem?_cons_zero]; rfl
          · exact fun _ _ _ h => h
          · first
              | (refine Or.inr ⟨?_, ?_⟩ <;> rfl)
              | (refine Or.inl ⟨?_, ?_⟩; · rfl
                 intro w hSw; (try dsimp only at hSw); go_simp; (try with_reducible rfl); done)
          try simp only [Act.put, List.setIfInBounds_toArray, List.set_cons_zero, List.set_cons_succ]
          refine wpAnyH_ready (rs := [8]) (by kernel_rfl) (by simp) ?_
          refine AllReadyH.cons (o := ?_) ?_ (fun K hK => ?_) AllReadyH.nil
          rotate_left 1
          · simp only [List.getElem?_toArray, List.getElem?_cons_succ, List.getElem?_cons_zero]; rfl
          go_simp
          skip
          refine hK.out _ _ ?_ (fun hHeld => ?_)
          · try dsimp only
            exact HSK.out _ (HB4.out.alloc HB4.out.size _)
          clear hK K
          try simp only [Act.put, List.setIfInBounds_toArray, List.set_cons_zero, List.set_cons_succ]
          refine wpAnyH_ready (rs := [9]) (by kernel_rfl) (by simp) ?_
          refine AllReadyH.cons (o := ?_) ?_ (fun K hK => ?_) AllReadyH.nil
          rotate_left 1
          · simp only [List.getElem?_toArray, List.getElem?_cons_succ, List.getElem?_cons_zero]; rfl
          go_simp
          skip
          refine hK.out _ _ ?_ (fun hHeld => ?_)
          · try dsimp only
            exact HSK.out _ (HB4.out.alloc HB4.out.size _)
          clear hK K
          try simp only [Act.put, List.setIfInBounds_toArray, List.set_cons_zero, List.set_cons_succ]
          refine wpAnyH_take (i := 10) (oi := ?_) (v := ?_) ?_ (by kernel_rfl) (by kernel_rfl) (by kernel_rfl) ?_ ?_ (by assumption) ?_
          rotate_left 2
          · simp only [List.getElem?_toArray, List.getElem?_cons_succ, List.getElem?_cons_zero]; rfl
          · exact fun _ _ _ h => h
          · first
              | (refine Or.inr ⟨?_, ?_⟩ <;> rfl)
              | (refine Or.inl ⟨?_, ?_⟩; · rfl
                 intro w hSw; (try dsimp only at hSw); go_simp; (try with_reducible rfl); done)
          try simp only [Act.put, List.setIfInBounds_toArray, List.set_cons_zero, List.set_cons_succ]
          refine wpAnyH_done (by kernel_rfl) ?_ _
          have HMz : Hid (SrM w (w4.alloc (.cells #[.int .i64 (stB (nx q (bt t k))).n, .bool (stB (nx q (bt t k))).i, .bool (stB (nx q (bt t k))).o] 46)) q) := HM.out.below (HB4.out.alloc HB4.out.size _)
          have HX : Hid (Bx (w4.alloc (.cells #[.int .i64 (stB (nx q (bt t k))).n, .bool (stB (nx q (bt t k))).i, .bool (stB (nx q (bt t k))).o] 46)) w4.heap.size 46 #[.int .i64 (stB (nx q (bt t k))).n, .bool (stB (nx q (bt t k))).i, .bool (stB (nx q (bt t k))).o]) := Bx.new _ _ _
          have hb7 : w.heap.size + 2 ≤ w4.heap.size := by have := HB4.out.size; omega
          clear HB4 HSK
          generalize w4.alloc (.cells #[.int .i64 (stB (nx q (bt t k))).n, .bool (stB (nx q (bt t k))).i, .bool (stB (nx q (bt t k))).o] 46) = W9 at *
          generalize w4.heap.size = b7 at *
          have hxc := HX.out.cell
          have hbc := HMz.out.box.cell
          have hbf := HMz.out.box.free
          have HMn := Lib.hid (HMz.out.next (j := nx q (bt t k)))
          go_wp2_with fail
          go_roundw
          case rel => exact ⟨k + 1, by omega, by go_num, nx q (bt t k), HNX, hn, HMn⟩
          case measure => simp [intOf]; omega
        · refine AllReadyH.cons (o := ?_) ?_ (fun K hK => ?_) ?_
          rotate_left 1
          · simp only [List.getElem?_toArray, List.getElem?_cons_succ, List.getElem?_cons_zero]; rfl
          · have HBA : Hid (Below wr.heap.size wr (wr.alloc (.cells #[.int .i64 0, .bool false, .bool false] 46)).drew) := (below_all wr (.cells #[.int .i64 0, .bool false, .bool false] 46)).drew
            go_simp
            skip
            refine hK.out _ _ ?_ (fun hHeld => ?_)
            · try dsimp only
              exact HSK.out _ HBA.out
            clear hK K
            try simp only [Act.put, List.setIfInBounds_toArray, List.set_cons_zero, List.set_cons_succ]
            have HXA : Hid (Bx (wr.alloc (.cells #[.int .i64 0, .bool false, .bool false] 46)).drew wr.heap.size 46 #[.int .i64 0, .bool false, .bool false]) := Bx.new wr _ _
            generalize (wr.alloc (.cells #[.int .i64 0, .bool false, .bool false] 46)).drew = WA at *
            refine wpAnyH_ready (rs := [4]) (by kernel_rfl) (by simp) ?_
            refine AllReadyH.cons (o := ?_) ?_ (fun K hK => ?_) AllReadyH.nil
            rotate_left 1
            · simp only [List.getElem?_toArray, List.getElem?_cons_succ, List.getElem?_cons_zero]; rfl
            go_simp
            go_at_call 104
            go_must (refine Calls.mono (HL3.out _) ?_)
            rintro e w4 ⟨rfl, hb⟩
            have HX4 := Lib.hid (HXA.out.below hb HXA.out.lt)
            have HB4 := Lib.hid (HBA.out.trans (hb.mono HBA.out.size))
            have hxc4 := HX4.out.cell
            have hxf4 := HX4.out.free
            rw [HV.out, HN.out]
            clear hb
            refine hK.out _ _ ?_ (fun hHeld => ?_)
            · try dsimp only
              exact HSK.out _ HB4.out
            clear hK K
            try simp only [Act.put, List.setIfInBounds_toArray, List.set_cons_zero, List.set_cons_succ]
            refine wpAnyH_take (i := 5) (oi := ?_) (v := ?_) ?_ (by kernel_rfl) (by kernel_rfl) (by kernel_rfl) ?_ ?_ (by assumption) ?_
            rotate_left 2
            · simp only [List.getElem?_toArray, List.getElem?_cons_succ, List.getElem?_cons_zero]; rfl
            · exact fun _ _ _ h => h
            · first
                | (refine Or.inr ⟨?_, ?_⟩ <;> rfl)
                | (refine Or.inl ⟨?_, ?_⟩; · rfl
                   intro w hSw; (try dsimp only at hSw); go_simp; (try with_reducible rfl); done)
            try simp only [Act.put, List.setIfInBounds_toArray, List.set_cons_zero, List.set_cons_succ]
            refine wpAnyH_take (i := 6) (oi := ?_) (v := ?_) ?_ (by kernel_rfl) (by kernel_rfl) (by kernel_rfl) ?_ ?_ (by assumption) ?_
            rotate_left 2
            · simp only [List.getElem?_toArray, List.getElem?_cons_succ, List.getElem?_cons_zero]; rfl
            · exact fun _ _ _ h => h
            · first
                | (refine Or.inr ⟨?_, ?_⟩ <;> rfl)
                | (refine Or.inl ⟨?_, ?_⟩; · rfl
                   intro w hSw; (try dsimp only at hSw); go_simp; (try with_reducible rfl); done)
            try simp only [Act.put, List.setIfInBounds_toArray, List.set_cons_zero, List.set_cons_succ]
            refine wpAnyH_take (i := 7) (oi := ?_) (v := ?_) ?_ (by kernel_rfl) (by kernel_rfl) (by kernel_rfl) ?_ ?_ (by assumption) ?_
            rotate_left 2
            · simp only [List.getElem?_toArray, List.getElem?_cons_succ, List.getElem?_cons_zero]; rfl
            · exact fun _ _ _ h => h
            · first
                | (refine Or.inr ⟨?_, ?_⟩ <;> rfl)
                | (refine Or.inl ⟨?_, ?_⟩; · rfl
                   intro w hSw; (try dsimp only at hSw); go_simp; (try with_reducible rfl); done)
            try simp only [Act.put, List.setIfInBounds_toArray, List.set_cons_zero, List.set_cons_succ]
            refine wpAnyH_ready (rs := [9]) (by kernel_rfl) (by simp) ?_
            refine AllReadyH.cons (o := ?_) ?_ (fun K hK => ?_) AllReadyH.nil
            rotate_left 1
            · simp only [List.getElem?_toArray, List.getElem?_cons_succ, List.getElem?_cons_zero]; rfl
            go_simp
            skip
            refine hK.out _ _ ?_ (fun hHeld => ?_)
            · try dsimp only
              exact HSK.out _ (((HB4.out.setCell (Nat.le_refl _) _).setCell (Nat.le_refl _) _).setCell (Nat.le_refl _) _)
            clear hK K
            try simp only [Act.put, List.setIfInBounds_toArray, List.set_cons_zero, List.set_cons_succ]
            refine wpAnyH_take (i := 10) (oi := ?_) (v := ?_) ?_ (by kernel_rfl) (by kernel_rfl) (by kernel_rfl) ?_ ?_ (by assumption) ?_
            rotate_left 2
            · simp only [List.getElem?_toArray, List.getElem?_cons_succ, List.getElem?_cons_zero]; rfl
            · exact fun _ _ _ h => h
            · first
                | (refine Or.inr ⟨?_, ?_⟩ <;> rfl)
                | (refine Or.inl ⟨?_, ?_⟩; · rfl
                   intro w hSw; (try dsimp only at hSw); go_simp; (try with_reducible rfl); done)
            try simp only [Act.put, List.setIfInBounds_toArray, List.set_cons_zero, List.set_cons_succ]
            refine wpAnyH_done (by kernel_rfl) ?_ _
            have HMz : Hid (SrM w (((w4.setCell ⟨wr.heap.size, 0, none⟩ (.int .i64 (stB (nx q (bt t k))).n)).setCell ⟨wr.heap.size, 1, none⟩ (.bool (stB (nx q (bt t k))).i)).setCell ⟨wr.heap.size, 2, none⟩ (.bool (stB (nx q (bt t k))).o)) q) := HM.out.below (((HB4.out.setCell (Nat.le_refl _) _).setCell (Nat.le_refl _) _).setCell (Nat.le_refl _) _)
            have HX := Lib.hid (bx3n HX4.out (.int .i64 (stB (nx q (bt t k))).n) (.bool (stB (nx q (bt t k))).i) (.bool (stB (nx q (bt t k))).o))
            have hb7 : w.heap.size + 2 ≤ wr.heap.size := by omega
            clear HB4 HSK HX4 HBA HXA hxc4 hxf4
            generalize ((w4.setCell ⟨wr.heap.size, 0, none⟩ (.int .i64 (stB (nx q (bt t k))).n)).setCell ⟨wr.heap.size, 1, none⟩ (.bool (stB (nx q (bt t k))).i)).setCell ⟨wr.heap.size, 2, none⟩ (.bool (stB (nx q (bt t k))).o) = W9 at *
            generalize wr.heap.size = b7 at *
            have hxc := HX.out.cell
            have hbc := HMz.out.box.cell
            have hbf := HMz.out.box.free
            have HMn := Lib.hid (HMz.out.next (j := nx q (bt t k)))
            go_wp2_with fail
            go_roundw
            case rel => exact ⟨k + 1, by omega, by go_num, nx q (bt t k), HNX, hn, HMn⟩
            case measure => simp [intOf]; omega
          · exact AllReadyH.nil
      · have HN : Hid (decide (nx q (bt t k) < 5) = false) := decide_eq_false hn
        have HV : Hid (bsV (nx q (bt t k)) = .agg #[.int .i64 0, .bool false, .bool false]) := if_neg hn
        have HJ : Hid (brJ (stB q0).n (stB q0).i (stB q0).o t = 5) := by show _ = _; rw [HBJ.out]; exact rnS_stop (k := k + 1) (by rw [HNX.out]; omega)
        go_wp2_with fail
        refine wp_region_held_drew (S := (fun w' => w'.cell? ⟨w.heap.size, 0, none⟩ = some (.int .i64 (stB q).n) ∧ w'.cell? ⟨w.heap.size, 1, none⟩ = some (.bool (stB q).i) ∧ w'.cell? ⟨w.heap.size, 2, none⟩ = some (.bool (stB q).o))) (by kernel_rfl) ?_ (fun hHeld => ?_)
        · try dsimp only
          go_keep
        refine wpAnyH_take (i := 0) (oi := ?_) (v := ?_) ?_ (by kernel_rfl) (by kernel_rfl) (by kernel_rfl) ?_ ?_ (by assumption) ?_
        rotate_left 2
        · simp only [List.getElem?_toArray, List.getElem?_cons_succ, List.getElem?_cons_zero]; rfl
        · exact fun _ _ _ h => h
        · first
            | (refine Or.inr ⟨?_, ?_⟩ <;> rfl)
            | (refine Or.inl ⟨?_, ?_⟩; · rfl
               intro w hSw; (try dsimp only at hSw); go_simp; (try with_reducible rfl); done)
        try simp only [Act.put, List.setIfInBounds_toArray, List.set_cons_zero, List.set_cons_succ]
        refine wpAnyH_take (i := 1) (oi := ?_) (v := ?_) ?_ (by kernel_rfl) (by kernel_rfl) (by kernel_rfl) ?_ ?_ (by assumption) ?_
        rotate_left 2
        · simp only [List.getElem?_toArray, List.getElem?_cons_succ, List.getElem?_cons_zero]; rfl
        · exact fun _ _ _ h => h
        · first
            | (refine Or.inr ⟨?_, ?_⟩ <;> rfl)
            | (refine Or.inl ⟨?_, ?_⟩; · rfl
               intro w hSw; (try dsimp only at hSw); go_simp; (try with_reducible rfl); done)
        try simp only [Act.put, List.setIfInBounds_toArray, List.set_cons_zero, List.set_cons_succ]
        refine wpAnyH_take (i := 2) (oi := ?_) (v := ?_) ?_ (by kernel_rfl) (by kernel_rfl) (by kernel_rfl) ?_ ?_ (by assumption) ?_
        rotate_left 2
        · simp only [List.getElem?_toArray, List.getElem?_cons_succ, List.getElem?_cons_zero]; rfl
        · exact fun _ _ _ h => h
        · first
            | (refine Or.inr ⟨?_, ?_⟩ <;> rfl)
            | (refine Or.inl ⟨?_, ?_⟩; · rfl
               intro w hSw; (try dsimp only at hSw); go_simp; (try with_reducible rfl); done)
        try simp only [Act.put, List.setIfInBounds_toArray, List.set_cons_zero, List.set_cons_succ]
        refine wpAnyH_take (i := 3) (oi := ?_) (v := ?_) ?_ (by kernel_rfl) (by kernel_rfl) (by kernel_rfl) ?_ ?_ (by assumption) ?_
        rotate_left 2
        · simp only [List.getElem?_toArray, List.getElem?_cons_succ, List.getElem?_cons_zero]; rfl
        · exact fun _ _ _ h => h
        · first
            | (refine Or.inr ⟨?_, ?_⟩ <;> rfl)
            | (refine Or.inl ⟨?_, ?_⟩; · rfl
               intro w hSw; (try dsimp only at hSw); go_simp; (try with_reducible rfl); done)
        try simp only [Act.put, List.setIfInBounds_toArray, List.set_cons_zero, List.set_cons_succ]
        have HSK : Hid (∀ W, Below wr.heap.size wr W → W.cell? ⟨w.heap.size, 0, none⟩ = some (.int .i64 (stB q).n) ∧ W.cell? ⟨w.heap.size, 1, none⟩ = some (.bool (stB q).i) ∧ W.cell? ⟨w.heap.size, 2, none⟩ = some (.bool (stB q).o)) := fun W hW => ⟨(HM.out.below hW).box.cell 0, (HM.out.below hW).box.cell 1, (HM.out.below hW).box.cell 2⟩
        clear hbc
        refine wpAnyH_ready (rs := [4, 8]) (by kernel_rfl) (by simp) ?_
        refine AllReadyH.cons (o := ?_) ?_ (fun K hK => ?_) ?_
        rotate_left 1
        · simp only [List.getElem?_toArray, List.getElem?_cons_succ, List.getElem?_cons_zero]; rfl
        · go_simp
          go_at_call 104
          go_must (refine Calls.mono (HL3.out _) ?_)
          rintro e w4 ⟨rfl, hb⟩
          have HB4 : Hid (Below wr.heap.size wr w4) := (Below.refl _ wr).drew.trans hb
          rw [HV.out, HN.out]
          clear hb
          refine hK.out _ _ ?_ (fun hHeld => ?_)
          · try dsimp only
            exact HSK.out _ HB4.out
          clear hK K
          try simp only [Act.put, List.setIfInBounds_toArray, List.set_cons_zero, List.set_cons_succ]
          refine wpAnyH_take (i := 5) (oi := ?_) (v := ?_) ?_ (by kernel_rfl) (by kernel_rfl) (by kernel_rfl) ?_ ?_ (by assumption) ?_
          rotate_left 2
          · simp only [List.getElem?_toArray, List.getElem?_cons_succ, List.getElem?_cons_zero]; rfl
          · exact fun _ _ _ h => h
          · first
              | (refine Or.inr ⟨?_, ?_⟩ <;> rfl)
              | (refine Or.inl ⟨?_, ?_⟩; · rfl
                 intro w hSw; (try dsimp only at hSw); go_simp; (try with_reducible rfl); done)
          try simp only [Act.put, List.setIfInBounds_toArray, List.set_cons_zero, List.set_cons_succ]
          refine wpAnyH_take (i := 6) (oi := ?_) (v := ?_) ?_ (by kernel_rfl) (by kernel_rfl) (by kernel_rfl) ?_ ?_ (by assumption) ?_
          rotate_left 2
          · simp only [List.getElem?_toArray, List.getElem?_cons_succ, List.getElem?_cons_zero]; rfl
          · exact fun _ _ _ h => h
          · first
              | (refine Or.inr ⟨?_, ?_⟩ <;> rfl)
              | (refine Or.inl ⟨?_, ?_⟩; · rfl
                 intro w hSw; (try dsimp only at hSw); go_simp; (try with_reducible rfl); done)
          try simp only [Act.put, List.setIfInBounds_toArray, List.set_cons_zero, List.set_cons_succ]
          refine wpAnyH_take (i := 7) (oi := ?_) (v := ?_) ?_ (by kernel_rfl) (by kernel_rfl) (by kernel_rfl) ?_ ?_ (by assumption) ?_
          rotate_left 2
          · simp only [List.getElem?_toArray, List.getElem?_cons_succ, List.getElem?_cons_zero]; rfl
          · exact fun _ _ _ h => h
          · first
              | (refine Or.inr ⟨?_, ?_⟩ <;> rfl)
              | (refine Or.inl ⟨?_, ?_⟩; · rfl
                 intro w hSw; (try dsimp only at hSw); go_simp; (try with_reducible rfl); done)
          try simp only [Act.put, List.setIfInBounds_toArray, List.set_cons_zero, List.set_cons_succ]
          refine wpAnyH_ready (rs := [8]) (by kernel_rfl) (by simp) ?_
          refine AllReadyH.cons (o := ?_) ?_ (fun K hK => ?_) AllReadyH.nil
          rotate_left 1
          · simp only [List.getElem?_toArray, List.getElem?_cons_succ, List.getElem?_cons_zero]; rfl
          go_simp
          skip
          refine hK.out _ _ ?_ (fun hHeld => ?_)
          · try dsimp only
            exact HSK.out _ (HB4.out.alloc HB4.out.size _)
          clear hK K
          try simp only [Act.put, List.setIfInBounds_toArray, List.set_cons_zero, List.set_cons_succ]
          refine wpAnyH_ready (rs := [9]) (by kernel_rfl) (by simp) ?_
          refine AllReadyH.cons (o := ?_) ?_ (fun K hK => ?_) AllReadyH.nil
          rotate_left 1
          · simp only [List.getElem?_toArray, List.getElem?_cons_succ, List.getElem?_cons_zero]; rfl
          go_simp
          skip
          refine hK.out _ _ ?_ (fun hHeld => ?_)
          · try dsimp only
            exact HSK.out _ (HB4.out.alloc HB4.out.size _)
          clear hK K
          try simp only [Act.put, List.setIfInBounds_toArray, List.set_cons_zero, List.set_cons_succ]
          refine wpAnyH_take (i := 10) (oi := ?_) (v := ?_) ?_ (by kernel_rfl) (by kernel_rfl) (by kernel_rfl) ?_ ?_ (by assumption) ?_
          rotate_left 2
          · simp only [List.getElem?_toArray, List.getElem?_cons_succ, List.getElem?_cons_zero]; rfl
          · exact fun _ _ _ h => h
          · first
              | (refine Or.inr ⟨?_, ?_⟩ <;> rfl)
              | (refine Or.inl ⟨?_, ?_⟩; · rfl
                 intro w hSw; (try dsimp only at hSw); go_simp; (try with_reducible rfl); done)
          try simp only [Act.put, List.setIfInBounds_toArray, List.set_cons_zero, List.set_cons_succ]
          refine wpAnyH_done (by kernel_rfl) ?_ _
          have HMz : Hid (SrM w (w4.alloc (.cells #[.int .i64 0, .bool false, .bool false] 46)) q) := HM.out.below (HB4.out.alloc HB4.out.size _)
          have HX : Hid (Bx (w4.alloc (.cells #[.int .i64 0, .bool false, .bool false] 46)) w4.heap.size 46 #[.int .i64 0, .bool false, .bool false]) := Bx.new _ _ _
          have hb7 : w.heap.size + 2 ≤ w4.heap.size := by have := HB4.out.size; omega
          clear HB4 HSK
          generalize w4.alloc (.cells #[.int .i64 0, .bool false, .bool false] 46) = W9 at *
          generalize w4.heap.size = b7 at *
          have hrc := HMz.out.res.cell
          have hrf := HMz.out.res.free
          clear HM
          have HM := HMz
          clear HMz
          go_wp2_with fail
          exact bodyPost_ret (v := .tuple #[.agg #[.int .i64 0, .bool false, .bool false], .bool false]) (by simp [results, Try.results85, go_sem, hrc]) rfl ⟨by rw [HJ.out]; rfl, HM.out.done _ _ _⟩
        · refine AllReadyH.cons (o := ?_) ?_ (fun K hK => ?_) ?_
          rotate_left 1
          · simp only [List.getElem?_toArray, List.getElem?_cons_succ, List.getElem?_cons_zero]; rfl
          · have HBA : Hid (Below wr.heap.size wr (wr.alloc (.cells #[.int .i64 0, .bool false, .bool false] 46)).drew) := (below_all wr (.cells #[.int .i64 0, .bool false, .bool false] 46)).drew
            go_simp
            skip
            refine hK.out _ _ ?_ (fun hHeld => ?_)
            · try dsimp only
              exact HSK.out _ HBA.out
            clear hK K
            try simp only [Act.put, List.setIfInBounds_toArray, List.set_cons_zero, List.set_cons_succ]
            have HXA : Hid (Bx (wr.alloc (.cells #[.int .i64 0, .bool false, .bool false] 46)).drew wr.heap.size 46 #[.int .i64 0, .bool false, .bool false]) := Bx.new wr _ _
            generalize (wr.alloc (.cells #[.int .i64 0, .bool false, .bool false] 46)).drew = WA at *
            refine wpAnyH_ready (rs := [4]) (by kernel_rfl) (by simp) ?_
            refine AllReadyH.cons (o := ?_) ?_ (fun K hK => ?_) AllReadyH.nil
            rotate_left 1
            · simp only [List.getElem?_toArray, List.getElem?_cons_succ, List.getElem?_cons_zero]; rfl
            go_simp
            go_at_call 104
            go_must (refine Calls.mono (HL3.out _) ?_)
            rintro e w4 ⟨rfl, hb⟩
            have HX4 := Lib.hid (HXA.out.below hb HXA.out.lt)
            have HB4 := Lib.hid (HBA.out.trans (hb.mono HBA.out.size))
            have hxc4 := HX4.out.cell
            have hxf4 := HX4.out.free
            rw [HV.out, HN.out]
            clear hb
            refine hK.out _ _ ?_ (fun hHeld => ?_)
            · try dsimp only
              exact HSK.out _ HB4.out
            clear hK K
            try simp only [Act.put, List.setIfInBounds_toArray, List.set_cons_zero, List.set_cons_succ]
            refine wpAnyH_take (i := 5) (oi := ?_) (v := ?_) ?_ (by kernel_rfl) (by kernel_rfl) (by kernel_rfl) ?_ ?_ (by assumption) ?_
            rotate_left 2
            · simp only [List.getElem?_toArray, List.getElem?_cons_succ, List.getElem?_cons_zero]; rfl
            · exact fun _ _ _ h => h
            · first
                | (refine Or.inr ⟨?_, ?_⟩ <;> rfl)
                | (refine Or.inl ⟨?_, ?_⟩; · rfl
                   intro w hSw; (try dsimp only at hSw); go_simp; (try with_reducible rfl); done)
            try simp only [Act.put, List.setIfInBounds_toArray, List.set_cons_zero, List.set_cons_succ]
            refine wpAnyH_take (i := 6) (oi := ?_) (v := ?_) ?_ (by kernel_rfl) (by kernel_rfl) (by kernel_rfl) ?_ ?_ (by assumption) ?_
            rotate_left 2
            · simp only [List.getElem?_toArray, List.getElem?_cons_succ, List.getElem?_cons_zero]; rfl
            · exact fun _ _ _ h => h
            · first
                | (refine Or.inr ⟨?_, ?_⟩ <;> rfl)
                | (refine Or.inl ⟨?_, ?_⟩; · rfl
                   intro w hSw; (try dsimp only at hSw); go_simp; (try with_reducible rfl); done)
            try simp only [Act.put, List.setIfInBounds_toArray, List.set_cons_zero, List.set_cons_succ]
            refine wpAnyH_take (i := 7) (oi := ?_) (v := ?_) ?_ (by kernel_rfl) (by kernel_rfl) (by kernel_rfl) ?_ ?_ (by assumption) ?_
            rotate_left 2
            · simp only [List.getElem?_toArray, List.getElem?_cons_succ, List.getElem?_cons_zero]; rfl
            · exact fun _ _ _ h => h
            · first
                | (refine Or.inr ⟨?_, ?_⟩ <;> rfl)
                | (refine Or.inl ⟨?_, ?_⟩; · rfl
                   intro w hSw; (try dsimp only at hSw); go_simp; (try with_reducible rfl); done)
            try simp only [Act.put, List.setIfInBounds_toArray, List.set_cons_zero, List.set_cons_succ]
            refine wpAnyH_ready (rs := [9]) (by kernel_rfl) (by simp) ?_
            refine AllReadyH.cons (o := ?_) ?_ (fun K hK => ?_) AllReadyH.nil
            rotate_left 1
            · simp only [List.getElem?_toArray, List.getElem?_cons_succ, List.getElem?_cons_zero]; rfl
            go_simp
            skip
            refine hK.out _ _ ?_ (fun hHeld => ?_)
            · try dsimp only
              exact HSK.out _ (((HB4.out.setCell (Nat.le_refl _) _).setCell (Nat.le_refl _) _).setCell (Nat.le_refl _) _)
            clear hK K
            try simp only [Act.put, List.setIfInBounds_toArray, List.set_cons_zero, List.set_cons_succ]
            refine wpAnyH_take (i := 10) (oi := ?_) (v := ?_) ?_ (by kernel_rfl) (by kernel_rfl) (by kernel_rfl) ?_ ?_ (by assumption) ?_
            rotate_left 2
            · simp only [List.getElem?_toArray, List.getElem?_cons_succ, List.getElem?_cons_zero]; rfl
            · exact fun _ _ _ h => h
            · first
                | (refine Or.inr ⟨?_, ?_⟩ <;> rfl)
                | (refine Or.inl ⟨?_, ?_⟩; · rfl
                   intro w hSw; (try dsimp only at hSw); go_simp; (try with_reducible rfl); done)
            try simp only [Act.put, List.setIfInBounds_toArray, List.set_cons_zero, List.set_cons_succ]
            refine wpAnyH_done (by kernel_rfl) ?_ _
            have HMz : Hid (SrM w (((w4.setCell ⟨wr.heap.size, 0, none⟩ (.int .i64 0)).setCell ⟨wr.heap.size, 1, none⟩ (.bool false)).setCell ⟨wr.heap.size, 2, none⟩ (.bool false)) q) := HM.out.below (((HB4.out.setCell (Nat.le_refl _) _).setCell (Nat.le_refl _) _).setCell (Nat.le_refl _) _)
            have HX := Lib.hid (bx3n HX4.out (.int .i64 0) (.bool false) (.bool false))
            have hb7 : w.heap.size + 2 ≤ wr.heap.size := by omega
            clear HB4 HSK HX4 HBA HXA hxc4 hxf4
            generalize ((w4.setCell ⟨wr.heap.size, 0, none⟩ (.int .i64 0)).setCell ⟨wr.heap.size, 1, none⟩ (.bool false)).setCell ⟨wr.heap.size, 2, none⟩ (.bool false) = W9 at *
            generalize wr.heap.size = b7 at *
            have hrc := HMz.out.res.cell
            have hrf := HMz.out.res.free
            clear HM
            have HM := HMz
            clear HMz
            go_wp2_with fail
            exact bodyPost_ret (v := .tuple #[.agg #[.int .i64 0, .bool false, .bool false], .bool false]) (by simp [results, Try.results85, go_sem, hrc]) rfl ⟨by rw [HJ.out]; rfl, HM.out.done _ _ _⟩
          · exact AllReadyH.nil
    · obtain rfl : k = t.size := by omega
      have HJ2 : Hid (brJ (stB q0).n (stB q0).i (stB q0).o t = q) := by show _ = _; rw [HBJ.out, ← rnS_all]; exact HQ.out
      have hrc := HM.out.res.cell
      have hrf := HM.out.res.free
      have HBV : Hid (bsV q = .agg #[.int .i64 (stB q).n, .bool (stB q).i, .bool (stB q).o]) := if_pos hq5
      have HD5 : Hid (decide (q < 5) = true) := decide_eq_true hq5
      clear HQ hq5
      go_wp2_with fail
      exact bodyPost_ret (v := .tuple #[.agg #[.int .i64 (stB q).n, .bool (stB q).i, .bool (stB q).o], .bool true]) (by simp [results, Try.results85, go_sem, hrc]) rfl ⟨by rw [HJ2.out, HBV.out, HD5.out], HM.out.done _ _ _⟩
set_option linter.unusedSimpArgs false in
theorem specLegal_any (t : ByteArray) (w : World) :
    Calls Try.prog 75 #[.string t] w fun e w' => e = .returned (.bool (lgB t)) ∧ Below w.heap.size w w' := by
  have hv : ∃ a b c, bsV (brJ 0 false false t) = .agg #[.int .i64 a, .bool b, .bool c] := by
    unfold bsV
    split
    · exact ⟨_, _, _, rfl⟩
    · exact ⟨_, _, _, rfl⟩
  obtain ⟨a, b, c, hv⟩ := hv
  have HV := Lib.hid hv
  clear hv
  go_enter Try.func75, Try.ntmps75
  go_wp2_with fail
  refine (specRun_any 0 false false t _).mono ?_
  rintro e w1 ⟨rfl, hb⟩
  have HB := Lib.hid hb
  clear hb
  rw [HV.out]
  go_wp2_with fail
  go_ret
  exact ⟨rfl, HB.out.alloc HB.out.size _⟩
end Go.Proofs.Ytokddeoliieofaa
