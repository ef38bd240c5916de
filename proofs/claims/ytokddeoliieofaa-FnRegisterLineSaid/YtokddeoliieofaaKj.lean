/-
  The draw of texts of events: of, l91Events, l91Legal, l91Broken.
-/
import Derived.Test.YtokddeoliieofaaKi
import Derived.Test.YtokddeoliieofaaRx
namespace Go.Proofs.Ytokddeoliieofaa
open Go.RowKit

/-- a row of texts -/
def StC (w : World) (b n : Nat) (f : Nat → ByteArray) : Prop := ∀ k, k < n → w.cell? ⟨b, k, none⟩ = some (.string (f k))
theorem of_any (R m b n c : Nat) (f : Nat → ByteArray) (w : World) (hn : 1 ≤ n ∧ n ≤ 1000) (hm : m ≤ 100000) (hr : RdL w R m) (hb : b ≠ R) (hs : StC w b n f) (hbl : b < w.heap.size) :
    Calls Try.prog 99 #[.pointer (some ⟨R, 0, none⟩), .slice (some ⟨b, 0, none⟩) n c] w fun e w' => (∃ k, k < n ∧ e = .returned (.string (f k))) ∧ RdL w' R (m + 1) ∧ w.grownBy w' (some R) := by
  have HS := Lib.hid hs
  have HP := Lib.hid (pickN_any R m n w (by omega) (by omega) hr)
  clear hs hr
  go_enter Try.func99, Try.ntmps99
  go_wp2_with fail
  refine HP.out.mono ?_
  rintro e w1 ⟨k, rfl, hk, hr1, hg1⟩
  have hc : w1.cell? ⟨b, k, none⟩ = some (.string (f k)) := (gcell hg1 b k hbl hb).trans (HS.out k hk)
  have HR1 := Lib.hid hr1
  have HG1 := Lib.hid hg1
  have hki : (k : Int) < (n : Int) := by omega
  clear hr1 hg1
  go_wp2_with fail
  go_ret
  exact ⟨⟨k, hk, rfl⟩, HR1.out, HG1.out⟩
/-- the boxes of l91Events -/
structure EvM (w wr : World) (R q M : Nat) : Prop where
  box : Bx wr w.heap.size 46 #[.int .i64 (stB q).n, .bool (stB q).i, .bool (stB q).o]
  rd : RdL wr R M
  hR : R < w.heap.size
  gr : w.grownBy wr (some R)
section
variable {w wr w' : World} {R q M M' : Nat}
theorem EvM.lt (h : EvM w wr R q M) : w.heap.size < wr.heap.size := h.box.lt
theorem EvM.below (h : EvM w wr R q M) (hb : Below wr.heap.size wr w') : EvM w w' R q M := ⟨h.box.below hb h.box.lt, h.rd.keep hb, h.hR, grownBy_trans h.gr (grownBy_below hb _)⟩
theorem EvM.drew (h : EvM w wr R q M) : EvM w wr.drew R q M := h.below (Below.refl _ _).drew
theorem EvM.pick (h : EvM w wr R q M) (hr : RdL w' R M') (hg : wr.grownBy w' (some R)) : EvM w w' R q M' := by
  have a1 := h.hR
  exact ⟨h.box.kept hg (by omega), hr, h.hR, grownBy_trans h.gr hg⟩
theorem EvM.next (h : EvM w wr R q M) (j : Nat) : EvM w (((wr.setCell ⟨w.heap.size, 0, none⟩ (.int .i64 (stB j).n)).setCell ⟨w.heap.size, 1, none⟩ (.bool (stB j).i)).setCell ⟨w.heap.size, 2, none⟩ (.bool (stB j).o)) R j M := by
  have a1 := h.hR
  refine ⟨?_, ((h.rd.set (by omega)).set (by omega)).set (by omega), a1, grow_new (grow_new (grow_new h.gr (grownBy_setCell _ _ _ _) (Nat.le_refl _)) (grownBy_setCell _ _ _ _) (Nat.le_refl _)) (grownBy_setCell _ _ _ _) (Nat.le_refl _)⟩
  have := ((h.box.set 0 (.int .i64 (stB j).n)).set 1 (.bool (stB j).i)).set 2 (.bool (stB j).o)
  simpa using this
end
/-- the texts of the choice -/
def exF (a b c : ByteArray) (k : Nat) : ByteArray := if k = 0 then a else if k = 1 then b else c
theorem stC_three (w : World) (a b c : ByteArray) (t : TypeId) : StC (w.alloc (.cells #[.string a, .string b, .string c] t)) w.heap.size 3 (exF a b c) := fun k hk => by
  match k, hk with
  | 0, _ => exact box_new _ _ _ 0
  | 1, _ => exact box_new _ _ _ 1
  | 2, _ => exact box_new _ _ _ 2
set_option linter.unusedSimpArgs false in
set_option maxRecDepth 100000 in
set_option maxHeartbeats 4000000 in
theorem l91Events_any (R m s n : Nat) (w : World) (hm : m ≤ 10000) (hn : n ≤ 1000) (hr : RdL w R m) :
    Calls Try.prog 125 #[.pointer (some ⟨R, 0, none⟩), .agg #[.int .i64 (stB s).n, .bool (stB s).i, .bool (stB s).o], .int .i64 n] w fun e w' => (∃ t : ByteArray, e = .returned (.string t) ∧ t.size ≤ n + 2) ∧ RdL w' R (m + n + 2) ∧ w.grownBy w' (some R) := by
  have HM0 : Hid (EvM w (w.alloc (.cells #[.int .i64 (stB s).n, .bool (stB s).i, .bool (stB s).o] 46)) R s m) := ⟨Bx.new _ _ _, hr.alloc _, hr.lt, grownBy_below (below_all _ _) _⟩
  clear hr
  go_enter Try.func125, Try.ntmps125
  go_wp2_with fail
  go_loopw [7, 8, 9, 10] (fun o i _ _ wr => ∃ k : Nat, k ≤ n ∧ i = .int .i64 k ∧ ∃ (t : ByteArray) (q : Nat), o = .string t ∧ t.size ≤ k ∧ Hid (EvM w wr R q (m + k))) (fun _ i _ _ _ => n - (intOf i).toNat)
  case atStart => exact ⟨0, Nat.zero_le _, rfl, ⟨#[]⟩, s, rfl, Nat.le_refl _, HM0⟩
  case round =>
    obtain ⟨k, hk, rfl, t, q, rfl, ht, HM⟩ := hrel
    by_cases hlt : k < n
    · have hbc := HM.out.box.cell
      have hlt' : (k : Int) < (n : Int) := by omega
      go_wp2_with fail
      refine (specNext_some q _).mono ?_
      rintro e w2 ⟨⟨u, rfl, hu⟩, hb⟩
      have HM2 := Lib.hid (HM.out.below hb)
      clear hb hbc
      rcases Nat.eq_zero_or_pos u.size with h0 | h0
      · have hu1 : u.toList = [] := by
          rw [ByteArray.toList_eq]
          exact List.length_eq_zero_iff.1 (by simpa using h0)
        have hu2 : (u.toList == []) = true := by rw [hu1]; rfl
        have hu3 : u.toList.isEmpty = true := by rw [hu1]; rfl
        clear h0
        go_wp2_with fail
        go_ret
        exact ⟨⟨t, rfl, by omega⟩, HM2.out.rd.mono (by omega), HM2.out.gr⟩
      · have hne : u.toList ≠ [] := by
          rw [ByteArray.toList_eq]
          intro e
          have h2 : u.data.toList.length = 0 := by rw [e]; rfl
          have h3 : u.data.toList.length = u.size := by simp
          omega
        have hu2 : (u.toList == []) = false := by simpa using hne
        have hu3 : u.toList.isEmpty = false := by simpa using hne
        have HPK := Lib.hid (pickN_any R (m + k) u.size w2 (by omega) (by omega) HM2.out.rd)
        clear hne
        go_wp2_with fail
        refine HPK.out.mono ?_
        rintro e w3 ⟨j, rfl, hj, hr3, hg3⟩
        have HM3 := Lib.hid (HM2.out.pick hr3 hg3)
        clear hr3 hg3 HPK hu2 hu3
        have hji : (j : Int) < (u.size : Int) := by omega
        have hji2 : (j : Int) + 1 ≤ (u.size : Int) := by omega
        have hes := ex_size u j
        have hss : t.size + (u.extract j (j + 1)).size ≤ maxLen := by unfold maxLen; omega
        have hbc := HM3.out.box.cell
        have hbf := HM3.out.box.free
        have hlz := HM3.out.lt
        have HST : Hid (∀ W l, Calls Try.prog 133 #[.agg #[.int .i64 (stB q).n, .bool (stB q).i, .bool (stB q).o], .string l] W fun e w' => (∃ q' ok, e = .returned (.tuple #[.agg #[.int .i64 (stB q').n, .bool (stB q').i, .bool (stB q').o], .bool ok])) ∧ Below W.heap.size W w') := fun W l => by
          refine (specStep_any _ _ _ l W).mono fun e w' ⟨h1, h2⟩ => ⟨?_, h2⟩
          obtain ⟨q', _, hq⟩ := bsV_any (bsI (stB q).n (stB q).i (stB q).o l)
          rw [hq] at h1
          exact ⟨q', _, h1⟩
        go_wp2_with fail
        have hw1 : IntKind.i64.wrap ((j : Int) + 1) = (j : Int) + 1 := IntWalk.i64_in _ (by omega)
        have hw2 : ((j : Int) + 1).toNat = j + 1 := by omega
        have hw3 : (0 : Int) ≤ (j : Int) + 1 := by omega
        have hw4 : (j : Int) ≤ (j : Int) + 1 := by omega
        refine wp_region_held_drew (S := (fun _ => True)) (by kernel_rfl) trivial (fun hHeld => ?_)
        refine wpAnyH_take (i := 1) (oi := ?_) (v := ?_) ?_ (by kernel_rfl) (by kernel_rfl) (by kernel_rfl) ?_ ?_ (by assumption) ?_
        rotate_left 2
        · simp only [List.getElem?_toArray, List.getElem?_cons_succ, List.getElem?_cons_zero]; rfl
        · exact fun _ _ _ h => h
        · first
            | (refine Or.inr ⟨?_, ?_⟩ <;> rfl)
            | (refine Or.inl ⟨?_, ?_⟩; · rfl
               intro w hSw; (try dsimp only at hSw); go_simp; (try with_reducible rfl); done)
        try simp only [Act.put, List.setIfInBounds_toArray, List.set_cons_zero, List.set_cons_succ]
        refine wpAnyH_take (i := 2) (oi := ?_) (v := ?_) ?_ (by kernel_rfl) (by kernel_rfl) (by kernel_rfl) ?_ ?_ (by assumption) ?_
        rotate_left 2
        · simp only [List.getElem?_toArray, List.getElem?_cons_succ, List.getElem?_cons_zero]; rfl
        · exact fun _ _ _ h => h
        · first
            | (refine Or.inr ⟨?_, ?_⟩ <;> rfl)
            | (refine Or.inl ⟨?_, ?_⟩; · rfl
               intro w hSw; (try dsimp only at hSw); go_simp; (try with_reducible rfl); done)
        try simp only [Act.put, List.setIfInBounds_toArray, List.set_cons_zero, List.set_cons_succ]
        refine wpAnyH_take (i := 3) (oi := ?_) (v := ?_) ?_ (by kernel_rfl) (by kernel_rfl) (by kernel_rfl) ?_ ?_ (by assumption) ?_
        rotate_left 2
        · simp only [List.getElem?_toArray, List.getElem?_cons_succ, List.getElem?_cons_zero]; rfl
        · exact fun _ _ _ h => h
        · first
            | (refine Or.inr ⟨?_, ?_⟩ <;> rfl)
            | (refine Or.inl ⟨?_, ?_⟩; · rfl
               intro w hSw; (try dsimp only at hSw); go_simp; (try with_reducible rfl); done)
        try simp only [Act.put, List.setIfInBounds_toArray, List.set_cons_zero, List.set_cons_succ]
        refine wpAnyH_take (i := 4) (oi := ?_) (v := ?_) ?_ (by kernel_rfl) (by kernel_rfl) (by kernel_rfl) ?_ ?_ (by assumption) ?_
        rotate_left 2
        · simp only [List.getElem?_toArray, List.getElem?_cons_succ, List.getElem?_cons_zero]; rfl
        · exact fun _ _ _ h => h
        · first
            | (refine Or.inr ⟨?_, ?_⟩ <;> rfl)
            | (refine Or.inl ⟨?_, ?_⟩; · rfl
               intro w hSw; (try dsimp only at hSw); go_simp; (try with_reducible rfl); done)
        try simp only [Act.put, List.setIfInBounds_toArray, List.set_cons_zero, List.set_cons_succ]
        refine wpAnyH_take (i := 5) (oi := ?_) (v := ?_) ?_ (by kernel_rfl) (by kernel_rfl) (by kernel_rfl) ?_ ?_ (by assumption) ?_
        rotate_left 2
        · simp only [List.getElem?_toArray, List.getElem?_cons_succ, List.getElem?_cons_zero]; rfl
        · exact fun _ _ _ h => h
        · first
            | (refine Or.inr ⟨?_, ?_⟩ <;> rfl)
            | (refine Or.inl ⟨?_, ?_⟩; · rfl
               intro w hSw; (try dsimp only at hSw); go_simp; (try with_reducible rfl); done)
        try simp only [Act.put, List.setIfInBounds_toArray, List.set_cons_zero, List.set_cons_succ]
        clear hw1 hw2 hw3 hw4
        refine wpAnyH_ready (rs := [0]) (by kernel_rfl) (by simp) ?_
        refine AllReadyH.cons (o := ?_) ?_ (fun K hK => ?_) AllReadyH.nil
        rotate_left 1
        · simp only [List.getElem?_toArray, List.getElem?_cons_succ, List.getElem?_cons_zero]; rfl
        go_simp
        skip
        refine hK.out _ _ ?_ (fun hHeld => ?_)
        · exact trivial
        clear hK K
        try simp only [Act.put, List.setIfInBounds_toArray, List.set_cons_zero, List.set_cons_succ]
        refine wpAnyH_ready (rs := [6]) (by kernel_rfl) (by simp) ?_
        refine AllReadyH.cons (o := ?_) ?_ (fun K hK => ?_) AllReadyH.nil
        rotate_left 1
        · simp only [List.getElem?_toArray, List.getElem?_cons_succ, List.getElem?_cons_zero]; rfl
        go_simp
        go_at_call 133
        go_must (refine Calls.mono (HST.out _ _) ?_)
        rintro e w4 ⟨⟨q', ok, rfl⟩, hb⟩
        have HM4 := Lib.hid (HM3.out.drew.below hb)
        have hbc4 := HM4.out.box.cell
        have hbf4 := HM4.out.box.free
        clear hb hbc hbf
        refine hK.out _ _ ?_ (fun hHeld => ?_)
        · exact trivial
        clear hK K
        try simp only [Act.put, List.setIfInBounds_toArray, List.set_cons_zero, List.set_cons_succ]
        refine wpAnyH_take (i := 7) (oi := ?_) (v := ?_) ?_ (by kernel_rfl) (by kernel_rfl) (by kernel_rfl) ?_ ?_ (by assumption) ?_
        rotate_left 2
        · simp only [List.getElem?_toArray, List.getElem?_cons_succ, List.getElem?_cons_zero]; rfl
        · exact fun _ _ _ h => h
        · first
            | (refine Or.inr ⟨?_, ?_⟩ <;> rfl)
            | (refine Or.inl ⟨?_, ?_⟩; · rfl
               intro w hSw; (try dsimp only at hSw); go_simp; (try with_reducible rfl); done)
        try simp only [Act.put, List.setIfInBounds_toArray, List.set_cons_zero, List.set_cons_succ]
        refine wpAnyH_take (i := 8) (oi := ?_) (v := ?_) ?_ (by kernel_rfl) (by kernel_rfl) (by kernel_rfl) ?_ ?_ (by assumption) ?_
        rotate_left 2
        · simp only [List.getElem?_toArray, List.getElem?_cons_succ, List.getElem?_cons_zero]; rfl
        · exact fun _ _ _ h => h
        · first
            | (refine Or.inr ⟨?_, ?_⟩ <;> rfl)
            | (refine Or.inl ⟨?_, ?_⟩; · rfl
               intro w hSw; (try dsimp only at hSw); go_simp; (try with_reducible rfl); done)
        try simp only [Act.put, List.setIfInBounds_toArray, List.set_cons_zero, List.set_cons_succ]
        refine wpAnyH_take (i := 9) (oi := ?_) (v := ?_) ?_ (by kernel_rfl) (by kernel_rfl) (by kernel_rfl) ?_ ?_ (by assumption) ?_
        rotate_left 2
        · simp only [List.getElem?_toArray, List.getElem?_cons_succ, List.getElem?_cons_zero]; rfl
        · exact fun _ _ _ h => h
        · first
            | (refine Or.inr ⟨?_, ?_⟩ <;> rfl)
            | (refine Or.inl ⟨?_, ?_⟩; · rfl
               intro w hSw; (try dsimp only at hSw); go_simp; (try with_reducible rfl); done)
        try simp only [Act.put, List.setIfInBounds_toArray, List.set_cons_zero, List.set_cons_succ]
        have HM5 := Lib.hid (HM4.out.next q')
        refine wpAnyH_ready (rs := [10]) (by kernel_rfl) (by simp) ?_
        refine AllReadyH.cons (o := ?_) ?_ (fun K hK => ?_) AllReadyH.nil
        rotate_left 1
        · simp only [List.getElem?_toArray, List.getElem?_cons_succ, List.getElem?_cons_zero]; rfl
        go_simp
        skip
        refine hK.out _ _ ?_ (fun hHeld => ?_)
        · exact trivial
        clear hK K
        try simp only [Act.put, List.setIfInBounds_toArray, List.set_cons_zero, List.set_cons_succ]
        refine wpAnyH_done (by kernel_rfl) ?_ _
        go_wp2_with fail
        go_roundw
        case rel => exact ⟨k + 1, by omega, by go_num, _, q', rfl, by rw [ByteArray.size_append]; omega, HM5⟩
        case measure => simp [intOf]; omega
    · obtain rfl : k = n := by omega
      go_wp2_with fail
      refine (pickN_any R (m + k) 16 _ (by omega) (by omega) HM.out.rd).mono ?_
      rintro e w3 ⟨v, rfl, hv, hr3, hg3⟩
      have HM3 := Lib.hid (HM.out.pick hr3 hg3)
      clear hr3 hg3
      by_cases hv0 : v = 0
      · subst hv0
        have hlz := HM3.out.lt
        have hRl := HM3.out.hR
        have HOF : Hid (Calls Try.prog 99 #[.pointer (some ⟨R, 0, none⟩), .slice (some ⟨w3.heap.size, 0, none⟩) 3 3] (w3.alloc (.cells #[.string ⟨#[120]⟩, .string ⟨#[101]⟩, .string ⟨#[97, 97]⟩] 9)) fun e w' => (∃ k, k < 3 ∧ e = .returned (.string (exF ⟨#[120]⟩ ⟨#[101]⟩ ⟨#[97, 97]⟩ k))) ∧ RdL w' R (m + k + 1 + 1) ∧ (w3.alloc (.cells #[.string ⟨#[120]⟩, .string ⟨#[101]⟩, .string ⟨#[97, 97]⟩] 9)).grownBy w' (some R)) :=
          of_any R (m + k + 1) w3.heap.size 3 3 _ _ (by omega) (by omega) (HM3.out.rd.alloc _) (by omega) (stC_three w3 _ _ _ _) (by simp)
        have HG3 : Hid (w.grownBy (w3.alloc (.cells #[.string ⟨#[120]⟩, .string ⟨#[101]⟩, .string ⟨#[97, 97]⟩] 9)) (some R)) := grownBy_trans HM3.out.gr (grownBy_below (below_all _ _) _)
        go_wp2_with fail
        refine HOF.out.mono ?_
        rintro e w4 ⟨⟨j, hj, rfl⟩, hr4, hg4⟩
        have HR4 := Lib.hid hr4
        have HG4 := Lib.hid (grownBy_trans HG3.out hg4)
        have hxs : (exF ⟨#[120]⟩ ⟨#[101]⟩ ⟨#[97, 97]⟩ j).size ≤ 2 := by
          unfold exF
          split
          · show 1 ≤ 2; omega
          · split
            · show 1 ≤ 2; omega
            · show 2 ≤ 2; omega
        generalize exF ⟨#[120]⟩ ⟨#[101]⟩ ⟨#[97, 97]⟩ j = x at *
        have hss : t.size + x.size ≤ maxLen := by unfold maxLen; omega
        clear hr4 hg4
        go_wp2_with fail
        go_ret
        exact ⟨⟨_, rfl, by rw [ByteArray.size_append]; omega⟩, HR4.out.mono (by omega), HG4.out⟩
      · have hv1 : ((v : Int) == 0) = false := by simp; omega
        clear hv0
        go_wp2_with fail
        go_ret
        exact ⟨⟨t, rfl, by omega⟩, HM3.out.rd.mono (by omega), HM3.out.gr⟩
end Go.Proofs.Ytokddeoliieofaa
