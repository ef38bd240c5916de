/-
  The draw of texts of events: what is needed of the reference's BlockNext; l91Events, l91Legal, l91Broken.
-/
import Derived.Test.YtokddeoliieofaaKf
import Derived.Test.YtokddeoliieofaaSm
namespace Go.Proofs.Ytokddeoliieofaa
open Go.RowKit

theorem bsV_any (j : Nat) : ∃ q, q < 5 ∧ bsV j = .agg #[.int .i64 (stB q).n, .bool (stB q).i, .bool (stB q).o] := by
  by_cases h : j < 5
  · exact ⟨j, h, if_pos h⟩
  · exact ⟨0, by omega, if_neg h⟩
theorem ex_size (t : ByteArray) (k : Nat) : (t.extract k (k + 1)).size ≤ 1 := by
  rw [ByteArray.size_extract]
  omega
/-- the box of BlockNext -/
structure BtM (w wr : World) (q : Nat) : Prop where
  box : Bx wr w.heap.size 46 #[.int .i64 (stB q).n, .bool (stB q).i, .bool (stB q).o]
  bl : Below w.heap.size w wr
theorem BtM.below {w wr w' : World} {q : Nat} (h : BtM w wr q) (hb : Below wr.heap.size wr w') : BtM w w' q :=
  ⟨h.box.below hb h.box.lt, h.bl.trans (hb.mono h.bl.size)⟩
set_option linter.unusedSimpArgs false in
set_option maxRecDepth 100000 in
set_option maxHeartbeats 4000000 in
theorem specNext_some (s : Nat) (w : World) :
    Calls Try.prog 132 #[.agg #[.int .i64 (stB s).n, .bool (stB s).i, .bool (stB s).o]] w fun e w' => (∃ t : ByteArray, e = .returned (.string t) ∧ t.size ≤ 7) ∧ Below w.heap.size w w' := by
  have HM0 : Hid (BtM w (w.alloc (.cells #[.int .i64 (stB s).n, .bool (stB s).i, .bool (stB s).o] 46)) s) := ⟨Bx.new _ _ _, below_all _ _⟩
  go_enter Try.func132, Try.ntmps132
  go_wp2_with fail
  go_loopw [4, 5, 6, 7] (fun o i _ _ wr => ∃ k : Nat, k ≤ 7 ∧ i = .int .i64 k ∧ ∃ t : ByteArray, o = .string t ∧ t.size ≤ k ∧ Hid (BtM w wr s)) (fun _ i _ _ _ => 7 - (intOf i).toNat)
  case atStart => exact ⟨0, Nat.zero_le _, rfl, ⟨#[]⟩, rfl, Nat.le_refl _, HM0⟩
  case round =>
    obtain ⟨k, hk, rfl, t, rfl, ht, HM⟩ := hrel
    have hbc := HM.out.box.cell
    have hbl := HM.out.box.lt
    by_cases hlt : k < 7
    · have hki : (k : Int) < 7 := by omega
      have hki2 : (k : Int) + 1 ≤ 7 := by omega
      have hki0 : (0 : Int) ≤ (k : Int) := by omega
      have HST : Hid (∀ W l, Calls Try.prog 133 #[.agg #[.int .i64 (stB s).n, .bool (stB s).i, .bool (stB s).o], .string l] W fun e w' => (∃ q ok, e = .returned (.tuple #[.agg #[.int .i64 (stB q).n, .bool (stB q).i, .bool (stB q).o], .bool ok])) ∧ Below W.heap.size W w') := fun W l => by
        refine (specStep_any _ _ _ l W).mono fun e w' ⟨h1, h2⟩ => ⟨?_, h2⟩
        obtain ⟨q, _, hq⟩ := bsV_any (bsI (stB s).n (stB s).i (stB s).o l)
        rw [hq] at h1
        exact ⟨q, _, h1⟩
      have hes := ex_size ⟨#[97, 99, 101, 102, 108, 111, 114]⟩ k
      have hss : t.size + ((⟨#[97, 99, 101, 102, 108, 111, 114]⟩ : ByteArray).extract k (k + 1)).size ≤ maxLen := by unfold maxLen; omega
      go_wp2_with fail
      have hw1 : IntKind.i64.wrap ((k : Int) + 1) = (k : Int) + 1 := IntWalk.i64_in _ (by omega)
      have hw2 : ((k : Int) + 1).toNat = k + 1 := by omega
      have hw3 : (0 : Int) ≤ (k : Int) + 1 := by omega
      have hw4 : (k : Int) ≤ (k : Int) + 1 := by omega
      refine wp_region_held_drew (S := (fun w' => w'.cell? ⟨w.heap.size, 0, none⟩ = some (.int .i64 (stB s).n) ∧ w'.cell? ⟨w.heap.size, 1, none⟩ = some (.bool (stB s).i) ∧ w'.cell? ⟨w.heap.size, 2, none⟩ = some (.bool (stB s).o))) (by kernel_rfl) ?_ (fun hHeld => ?_)
      · try dsimp only
        go_keep
      refine wpAnyH_take (i := 0) (oi := ?_) (v := ?_) ?_ (by kernel_rfl) (by kernel_rfl) (by kernel_rfl) ?_ ?_ (by assumption) ?_
      rotate_left 2
      · simp only [List.getElem?_toArray, List.getElem?_cons_succ, List.getElem?_cons_zero]; rfl
      · exact fun _ _ _ h => h
      · first
          | (refine Or.inr ⟨?_, ?_⟩ <;> rfl)
          | (refine Or.inl ⟨?_, ?_⟩; · rfl
             intro w hSw; (try dsimp only at hSw); go_simp; (try with_reducible rfl); done)
      try simp only [Act.put, List.setIfInBounds_toArray, List.set_cons_zero, List.set_cons_succ]
      refine wpAnyH_take (i := 1) (oi := ?_) (v := ?_) ?_ (by kernel_rfl) (by kernel_rfl) (by kernel_rfl) ?_ ?_ (by assumption) ?_
      rotate_left 2
      · simp only [List.getElem?_toArray, List.getElem?_cons_succ, List.getElem?_cons_zero]; rfl
      · exact fun _ _ _ h => h
      · first
          | (refine Or.inr ⟨?_, ?_⟩ <;> rfl)
          | (refine Or.inl ⟨?_, ?_⟩; · rfl
             intro w hSw; (try dsimp only at hSw); go_simp; (try with_reducible rfl); done)
      try simp only [Act.put, List.setIfInBounds_toArray, List.set_cons_zero, List.set_cons_succ]
      refine wpAnyH_take (i := 2) (oi := ?_) (v := ?_) ?_ (by kernel_rfl) (by kernel_rfl) (by kernel_rfl) ?_ ?_ (by assumption) ?_
      rotate_left 2
      · simp only [List.getElem?_toArray, List.getElem?_cons_succ, List.getElem?_cons_zero]; rfl
      · exact fun _ _ _ h => h
      · first
          | (refine Or.inr ⟨?_, ?_⟩ <;> rfl)
          | (refine Or.inl ⟨?_, ?_⟩; · rfl
             intro w hSw; (try dsimp only at hSw); go_simp; (try with_reducible rfl); done)
      try simp only [Act.put, List.setIfInBounds_toArray, List.set_cons_zero, List.set_cons_succ]
      refine wpAnyH_take (i := 3) (oi := ?_) (v := ?_) ?_ (by kernel_rfl) (by kernel_rfl) (by kernel_rfl) ?_ ?_ (by assumption) ?_
      rotate_left 2
      · simp only [List.getElem?_toArray, List.getElem?_cons_succ, List.getElem?_cons_zero]; rfl
      · exact fun _ _ _ h => h
      · first
          | (refine Or.inr ⟨?_, ?_⟩ <;> rfl)
          | (refine Or.inl ⟨?_, ?_⟩; · rfl
             intro w hSw; (try dsimp only at hSw); go_simp; (try with_reducible rfl); done)
      try simp only [Act.put, List.setIfInBounds_toArray, List.set_cons_zero, List.set_cons_succ]
      refine wpAnyH_take (i := 4) (oi := ?_) (v := ?_) ?_ (by kernel_rfl) (by kernel_rfl) (by kernel_rfl) ?_ ?_ (by assumption) ?_
      rotate_left 2
      · simp only [List.getElem?_toArray, List.getElem?_cons_succ, List.getElem?_cons_zero]; rfl
      · exact fun _ _ _ h => h
      · first
          | (refine Or.inr ⟨?_, ?_⟩ <;> rfl)
          | (refine Or.inl ⟨?_, ?_⟩; · rfl
             intro w hSw; (try dsimp only at hSw); go_simp; (try with_reducible rfl); done)
      try simp only [Act.put, List.setIfInBounds_toArray, List.set_cons_zero, List.set_cons_succ]
      refine wpAnyH_take (i := 5) (oi := ?_) (v := ?_) ?_ (by kernel_rfl) (by kernel_rfl) (by kernel_rfl) ?_ ?_ (by assumption) ?_
      rotate_left 2
      · simp only [List.getElem?_toArray, List.getElem?_cons_succ, List.getElem?_cons_zero]; rfl
      · exact fun _ _ _ h => h
      · first
          | (refine Or.inr ⟨?_, ?_⟩ <;> rfl)
          | (refine Or.inl ⟨?_, ?_⟩; · rfl
             intro w hSw; (try dsimp only at hSw); go_simp; (try with_reducible rfl); done)
      try simp only [Act.put, List.setIfInBounds_toArray, List.set_cons_zero, List.set_cons_succ]
      clear hw1 hw2 hw3 hw4
      have HSK : Hid (∀ W, Below wr.heap.size wr W → W.cell? ⟨w.heap.size, 0, none⟩ = some (.int .i64 (stB s).n) ∧ W.cell? ⟨w.heap.size, 1, none⟩ = some (.bool (stB s).i) ∧ W.cell? ⟨w.heap.size, 2, none⟩ = some (.bool (stB s).o)) := fun W hW => ⟨(HM.out.below hW).box.cell 0, (HM.out.below hW).box.cell 1, (HM.out.below hW).box.cell 2⟩
      clear hbc
      refine wpAnyH_ready (rs := [6, 10]) (by kernel_rfl) (by simp) ?_
      refine AllReadyH.cons (o := ?_) ?_ (fun K hK => ?_) ?_
      rotate_left 1
      · simp only [List.getElem?_toArray, List.getElem?_cons_succ, List.getElem?_cons_zero]; rfl
      · go_simp
        go_at_call 133
        go_must (refine Calls.mono (HST.out _ _) ?_)
        rintro e w4 ⟨⟨q, ok, rfl⟩, hb⟩
        have HB4 : Hid (Below wr.heap.size wr w4) := (Below.refl _ wr).drew.trans hb
        clear hb
        refine hK.out _ _ ?_ (fun hHeld => ?_)
        · try dsimp only
          exact HSK.out _ HB4.out
        clear hK K
        try simp only [Act.put, List.setIfInBounds_toArray, List.set_cons_zero, List.set_cons_succ]
        refine wpAnyH_take (i := 7) (oi := ?_) (v := ?_) ?_ (by kernel_rfl) (by kernel_rfl) (by kernel_rfl) ?_ ?_ (by assumption) ?_
        rotate_left 2
        · simp only [List.getElem?_toArray, List.getElem?_cons_succ, List.getElem?_cons_zero]; rfl
        · exact fun _ _ _ h => h
        · first
            | (refine Or.inr ⟨?_, ?_⟩ <;> rfl)
            | (refine Or.inl ⟨?_, ?_⟩; · rfl
               intro w hSw; (try dsimp only at hSw); go_simp; (try with_reducible rfl); done)
        try simp only [Act.put, List.setIfInBounds_toArray, List.set_cons_zero, List.set_cons_succ]
        refine wpAnyH_take (i := 8) (oi := ?_) (v := ?_) ?_ (by kernel_rfl) (by kernel_rfl) (by kernel_rfl) ?_ ?_ (by assumption) ?_
        rotate_left 2
        · simp only [List.getElem?_toArray, List.getElem?_cons_succ, List.getElem?_cons_zero]; rfl
        · exact fun _ _ _ h => h
        · first
            | (refine Or.inr ⟨?_, ?_⟩ <;> rfl)
            | (refine Or.inl ⟨?_, ?_⟩; · rfl
               intro w hSw; (try dsimp only at hSw); go_simp; (try with_reducible rfl); done)
        try simp only [Act.put, List.setIfInBounds_toArray, List.set_cons_zero, List.set_cons_succ]
        refine wpAnyH_take (i := 9) (oi := ?_) (v := ?_) ?_ (by kernel_rfl) (by kernel_rfl) (by kernel_rfl) ?_ ?_ (by assumption) ?_
        rotate_left 2
        · simp only [List.getElem?_toArray, List.getElem?_cons_succ, List.getElem?_cons_zero]; rfl
        · exact fun _ _ _ h => h
        · first
            | (refine Or.inr ⟨?_, ?_⟩ <;> rfl)
            | (refine Or.inl ⟨?_, ?_⟩; · rfl
               intro w hSw; (try dsimp only at hSw); go_simp; (try with_reducible rfl); done)
        try simp only [Act.put, List.setIfInBounds_toArray, List.set_cons_zero, List.set_cons_succ]
        refine wpAnyH_ready (rs := [10]) (by kernel_rfl) (by simp) ?_
        refine AllReadyH.cons (o := ?_) ?_ (fun K hK => ?_) AllReadyH.nil
        rotate_left 1
        · simp only [List.getElem?_toArray, List.getElem?_cons_succ, List.getElem?_cons_zero]; rfl
        go_simp
        skip
        refine hK.out _ _ ?_ (fun hHeld => ?_)
        · try dsimp only
          exact HSK.out _ (HB4.out.alloc HB4.out.size _)
        clear hK K
        try simp only [Act.put, List.setIfInBounds_toArray, List.set_cons_zero, List.set_cons_succ]
        refine wpAnyH_ready (rs := [11]) (by kernel_rfl) (by simp) ?_
        refine AllReadyH.cons (o := ?_) ?_ (fun K hK => ?_) AllReadyH.nil
        rotate_left 1
        · simp only [List.getElem?_toArray, List.getElem?_cons_succ, List.getElem?_cons_zero]; rfl
        go_simp
        skip
        refine hK.out _ _ ?_ (fun hHeld => ?_)
        · try dsimp only
          exact HSK.out _ (HB4.out.alloc HB4.out.size _)
        clear hK K
        try simp only [Act.put, List.setIfInBounds_toArray, List.set_cons_zero, List.set_cons_succ]
        refine wpAnyH_take (i := 12) (oi := ?_) (v := ?_) ?_ (by kernel_rfl) (by kernel_rfl) (by kernel_rfl) ?_ ?_ (by assumption) ?_
        rotate_left 2
        · simp only [List.getElem?_toArray, List.getElem?_cons_succ, List.getElem?_cons_zero]; rfl
        · exact fun _ _ _ h => h
        · first
            | (refine Or.inr ⟨?_, ?_⟩ <;> rfl)
            | (refine Or.inl ⟨?_, ?_⟩; · rfl
               intro w hSw; (try dsimp only at hSw); go_simp; (try with_reducible rfl); done)
        try simp only [Act.put, List.setIfInBounds_toArray, List.set_cons_zero, List.set_cons_succ]
        refine wpAnyH_done (by kernel_rfl) ?_ _
        have HMz : Hid (BtM w (w4.alloc (.cells #[.int .i64 (stB q).n, .bool (stB q).i, .bool (stB q).o] 46)) s) := HM.out.below (HB4.out.alloc HB4.out.size _)
        clear HSK
        cases hok : ok
        · go_wp2_with fail
          go_roundw
          case rel => exact ⟨k + 1, by omega, by go_num, t, rfl, by omega, HMz⟩
          case measure => simp [intOf]; omega
        · go_wp2_with fail
          go_roundw
          case rel => exact ⟨k + 1, by omega, by go_num, _, rfl, by rw [ByteArray.size_append]; omega, HMz⟩
          case measure => simp [intOf]; omega
      · refine AllReadyH.cons (o := ?_) ?_ (fun K hK => ?_) ?_
        rotate_left 1
        · simp only [List.getElem?_toArray, List.getElem?_cons_succ, List.getElem?_cons_zero]; rfl
        · have HBA : Hid (Below wr.heap.size wr (wr.alloc (.cells #[.int .i64 0, .bool false, .bool false] 46)).drew) := (below_all wr (.cells #[.int .i64 0, .bool false, .bool false] 46)).drew
          go_simp
          skip
          refine hK.out _ _ ?_ (fun hHeld => ?_)
          · try dsimp only
            exact HSK.out _ HBA.out
          clear hK K
          try simp only [Act.put, List.setIfInBounds_toArray, List.set_cons_zero, List.set_cons_succ]
          have HXA : Hid (Bx (wr.alloc (.cells #[.int .i64 0, .bool false, .bool false] 46)).drew wr.heap.size 46 #[.int .i64 0, .bool false, .bool false]) := Bx.new wr _ _
          generalize (wr.alloc (.cells #[.int .i64 0, .bool false, .bool false] 46)).drew = WA at *
          refine wpAnyH_ready (rs := [6]) (by kernel_rfl) (by simp) ?_
          refine AllReadyH.cons (o := ?_) ?_ (fun K hK => ?_) AllReadyH.nil
          rotate_left 1
          · simp only [List.getElem?_toArray, List.getElem?_cons_succ, List.getElem?_cons_zero]; rfl
          go_simp
          go_at_call 133
          go_must (refine Calls.mono (HST.out _ _) ?_)
          rintro e w4 ⟨⟨q, ok, rfl⟩, hb⟩
          have HX4 := Lib.hid (HXA.out.below hb HXA.out.lt)
          have HB4 := Lib.hid (HBA.out.trans (hb.mono HBA.out.size))
          have hxc4 := HX4.out.cell
          have hxf4 := HX4.out.free
          clear hb
          refine hK.out _ _ ?_ (fun hHeld => ?_)
          · try dsimp only
            exact HSK.out _ HB4.out
          clear hK K
          try simp only [Act.put, List.setIfInBounds_toArray, List.set_cons_zero, List.set_cons_succ]
          refine wpAnyH_take (i := 7) (oi := ?_) (v := ?_) ?_ (by kernel_rfl) (by kernel_rfl) (by kernel_rfl) ?_ ?_ (by assumption) ?_
          rotate_left 2
          · simp only [List.getElem?_toArray, List.getElem?_cons_succ, List.getElem?_cons_zero]; rfl
          · exact fun _ _ _ h => h
          · first
              | (refine Or.inr ⟨?_, ?_⟩ <;> rfl)
              | (refine Or.inl ⟨?_, ?_⟩; · rfl
                 intro w hSw; (try dsimp only at hSw); go_simp; (try with_reducible rfl); done)
          try simp only [Act.put, List.setIfInBounds_toArray, List.set_cons_zero, List.set_cons_succ]
          refine wpAnyH_take (i := 8) (oi := ?_) (v := ?_) ?_ (by kernel_rfl) (by kernel_rfl) (by kernel_rfl) ?_ ?_ (by assumption) ?_
          rotate_left 2
          · simp only [List.getElem?_toArray, List.getElem?_cons_succ, List.getElem?_cons_zero]; rfl
          · exact fun _ _ _ h => h
          · first
              | (refine Or.inr ⟨?_, ?_⟩ <;> rfl)
              | (refine Or.inl ⟨?_, ?_⟩; · rfl
                 intro w hSw; (try dsimp only at hSw); go_simp; (try with_reducible rfl); done)
          try simp only [Act.put, List.setIfInBounds_toArray, List.set_cons_zero, List.set_cons_succ]
          refine wpAnyH_take (i := 9) (oi := ?_) (v := ?_) ?_ (by kernel_rfl) (by kernel_rfl) (by kernel_rfl) ?_ ?_ (by assumption) ?_
          rotate_left 2
          · simp only [List.getElem?_toArray, List.getElem?_cons_succ, List.getElem?_cons_zero]; rfl
          · exact fun _ _ _ h => h
          · first
              | (refine Or.inr ⟨?_, ?_⟩ <;> rfl)
              | (refine Or.inl ⟨?_, ?_⟩; · rfl
                 intro w hSw; (try dsimp only at hSw); go_simp; (try with_reducible rfl); done)
          try simp only [Act.put, List.setIfInBounds_toArray, List.set_cons_zero, List.set_cons_succ]
          refine wpAnyH_ready (rs := [11]) (by kernel_rfl) (by simp) ?_
          refine AllReadyH.cons (o := ?_) ?_ (fun K hK => ?_) AllReadyH.nil
          rotate_left 1
          · simp only [List.getElem?_toArray, List.getElem?_cons_succ, List.getElem?_cons_zero]; rfl
          go_simp
          skip
          refine hK.out _ _ ?_ (fun hHeld => ?_)
          · try dsimp only
            exact HSK.out _ (((HB4.out.setCell (Nat.le_refl _) _).setCell (Nat.le_refl _) _).setCell (Nat.le_refl _) _)
          clear hK K
          try simp only [Act.put, List.setIfInBounds_toArray, List.set_cons_zero, List.set_cons_succ]
          refine wpAnyH_take (i := 12) (oi := ?_) (v := ?_) ?_ (by kernel_rfl) (by kernel_rfl) (by kernel_rfl) ?_ ?_ (by assumption) ?_
          rotate_left 2
          · simp only [List.getElem?_toArray, List.getElem?_cons_succ, List.getElem?_cons_zero]; rfl
          · exact fun _ _ _ h => h
          · first
              | (refine Or.inr ⟨?_, ?_⟩ <;> rfl)
              | (refine Or.inl ⟨?_, ?_⟩; · rfl
                 intro w hSw; (try dsimp only at hSw); go_simp; (try with_reducible rfl); done)
          try simp only [Act.put, List.setIfInBounds_toArray, List.set_cons_zero, List.set_cons_succ]
          refine wpAnyH_done (by kernel_rfl) ?_ _
          have HMz : Hid (BtM w (((w4.setCell ⟨wr.heap.size, 0, none⟩ (.int .i64 (stB q).n)).setCell ⟨wr.heap.size, 1, none⟩ (.bool (stB q).i)).setCell ⟨wr.heap.size, 2, none⟩ (.bool (stB q).o)) s) := HM.out.below (((HB4.out.setCell (Nat.le_refl _) _).setCell (Nat.le_refl _) _).setCell (Nat.le_refl _) _)
          clear HSK hxc4 hxf4
          cases hok : ok
          · go_wp2_with fail
            go_roundw
            case rel => exact ⟨k + 1, by omega, by go_num, t, rfl, by omega, HMz⟩
            case measure => simp [intOf]; omega
          · go_wp2_with fail
            go_roundw
            case rel => exact ⟨k + 1, by omega, by go_num, _, rfl, by rw [ByteArray.size_append]; omega, HMz⟩
            case measure => simp [intOf]; omega
        · exact AllReadyH.nil
    · obtain rfl : k = 7 := by omega
      go_wp2_with fail
      go_ret
      exact ⟨⟨t, rfl, ht⟩, HM.out.bl⟩
end Go.Proofs.Ytokddeoliieofaa
