/-
  Parts of the proof of fnExecuteFinish_proved: Vc Vd Vp Eg Ve Vf Jk. No condition.
-/
import Derived.WalkKit
import Derived.WalkSpells
import Derived.WalkLawsBesides
import Derived.Lib.Hide
import Derived.BigQuiet
import Derived.Deep.QuietTactic
import Derived.Deep.RegionHeld3
import Derived.Deep.DeepFit
import Derived.Shelf.RegionOpen
import Derived.Lib.Builder
import Derived.Lib.AppendStr
import Derived.Lib.UnsafeStr
import Derived.Lib.Strings
import Derived.Lib.Slices
import Derived.Laws.Externs
import Derived.Maps.AppendAt
import Derived.Lib.IndexLaws
import Derived.Deep.DeepCutAuto
import Derived.Deep.RegionWith
import Derived.Lib.SlBytesRow
import Derived.Test.YtlkdmpfifpkpaaaGreatDoorChecked
import Derived.Shelf.Strings.Builder1
import Derived.Shelf.Strings.Builder2
import Derived.Shelf.Strings.OnBuilder
import Derived.Shelf.Strings.BuilderF
import Derived.Shelf.Strconv.Itoa0
import Derived.Shelf.Strconv.Itoa1
import Derived.Shelf.LaysM
import Derived.Shelf.Strconv.Itoa2
import Derived.Shelf.Strconv.Itoa3
import Derived.Shelf.Strings.Search1
import Derived.Shelf.Strings.Search2
import Derived.Shelf.Strings.Search3
import Derived.Shelf.Strings.Count
import Derived.Shelf.Strings.Shaped
import Derived.Shelf.Strings.Split
import Derived.Shelf.Strings.SplitShaped
import Derived.Shelf.Unicode.DecodeSlow
import Derived.Test.YtlkdmpfifpkpaaaGreatDoorProg
import Derived.Laws.BitsAllLaws
import Derived.RangeFuncNested
import Derived.RangeFuncCalls
import Derived.RangeFuncLeaves
import Derived.OrdersIn
import Derived.OrdersHeld
import Derived.Deep.RegionHeld
import Derived.RangeFuncBound
import Derived.RangeFuncBox
import Derived.Shelf.Abstract
import Derived.OwnWalkIn
import Derived.TacticsInMore
import Derived.LoopNIn
import Derived.LoopIn
import Derived.Recover
import Derived.Defers
import Derived.Lib.SplitLaws
import Derived.Lib.ItoaLen
import Derived.Test.YtlkdmpfifpkpaaaGreatDoorR01
import Derived.Test.YtlkdmpfifpkpaaaGreatDoorR02
import Derived.Test.YtlkdmpfifpkpaaaGreatDoorR03
import Derived.Test.YtlkdmpfifpkpaaaGreatDoorR04
import Derived.Test.YtlkdmpfifpkpaaaGreatDoorR05
import Derived.Test.YtlkdmpfifpkpaaaGreatDoorR06
import Derived.Test.YtlkdmpfifpkpaaaGreatDoorR07
namespace Go.Proofs.YtlkdmpfifpkpaaaGreatDoor
open Go.RowKit

/-- a new line -/
def newL (n m : Nat) : Ln := { n := n, N := fun _ => 0, I := fun _ => false, O := fun _ => false, m := m, T := fun _ => 0 }
def nwO (n t : Int) : Option Ln := if inB n 1 5 && inB t 0 5 then some (newL n.toNat t.toNat) else none
theorem nwO_yes {n t : Nat} (h1 : inB n 1 5 = true) (h2 : inB t 0 5 = true) : nwO n t = some (newL n t) := by
  unfold nwO
  rw [h1, h2]
  rfl
theorem nwO_n {n t : Int} (h1 : inB n 1 5 = false) : nwO n t = none := by
  unfold nwO
  rw [h1]
  rfl
theorem nwO_t {n t : Int} (h1 : inB t 0 5 = false) : nwO n t = none := by
  unfold nwO
  rw [h1, Bool.and_false]
  rfl
/-- behind the two rows of a new line -/
theorem nw_done {w wr : World} {g1 g2 n m : Nat} (h1 : Own wr g1 n n 3 76 (bkF (newL n m).N (newL n m).I (newL n m).O)) (h2 : Own wr g2 m m 1 3 (fun _ => .int .i64 0)) (hg : g1 ≠ g2) (h3 : w.heap.size + 1 ≤ g1) (h4 : w.heap.size + 1 ≤ g2) (hb : Below w.heap.size w wr) (n' t' : Int) (ho : nwO n' t' = some (newL n m)) :
    LrR (nwO n' t') w (.returned (.tuple #[.agg #[.slice (some ⟨g1, 0, none⟩) n n, .slice (some ⟨g2, 0, none⟩) m m], .bool true])) wr :=
  ⟨hb, .inr ⟨newL n m, _, ho, rfl, g1, n, g2, m, rfl, h1, h2, hg, by omega, by omega⟩⟩
theorem nw_two {w W : World} {z : Nat} (hz : z = W.heap.size) (hB : Below w.heap.size w W) (hs : w.heap.size + 1 ≤ W.heap.size) (n m : Nat) (hn : n ≤ 5) (hm : m ≤ 5) :
    Own ((W.alloc (.cells (madeCells #[.int .i64 0, .bool false, .bool false] (n * 3)) 76)).alloc (.cells (madeCells #[.int .i64 0] m) 3)) z n n 3 76 (bkF (newL n m).N (newL n m).I (newL n m).O) ∧
    Own ((W.alloc (.cells (madeCells #[.int .i64 0, .bool false, .bool false] (n * 3)) 76)).alloc (.cells (madeCells #[.int .i64 0] m) 3)) (z + 1) m m 1 3 (fun _ => .int .i64 0) ∧
    Below w.heap.size w ((W.alloc (.cells (madeCells #[.int .i64 0, .bool false, .bool false] (n * 3)) 76)).alloc (.cells (madeCells #[.int .i64 0] m) 3)) := by
  subst hz
  refine ⟨(own_bk0 W n (by omega)).alloc _, ?_, (hB.alloc (by omega) _).alloc (by simp; omega) _⟩
  have h := own_full1 (W.alloc (.cells (madeCells #[.int .i64 0, .bool false, .bool false] (n * 3)) 76)) (.int .i64 0) m 3 (by unfold maxLen; omega)
  rw [World.size_alloc] at h
  exact h
theorem nw_two' {w W : World} {z : Nat} (hz : z = W.heap.size) (hB : Below w.heap.size w W) (hs : w.heap.size + 1 ≤ W.heap.size) (n m : Nat) (hn : n ≤ 5) (hm : m ≤ 5) :
    Own ((W.alloc (.cells (madeCells #[.int .i64 0] m) 3)).alloc (.cells (madeCells #[.int .i64 0, .bool false, .bool false] (n * 3)) 76)) (z + 1) n n 3 76 (bkF (newL n m).N (newL n m).I (newL n m).O) ∧
    Own ((W.alloc (.cells (madeCells #[.int .i64 0] m) 3)).alloc (.cells (madeCells #[.int .i64 0, .bool false, .bool false] (n * 3)) 76)) z m m 1 3 (fun _ => .int .i64 0) ∧
    Below w.heap.size w ((W.alloc (.cells (madeCells #[.int .i64 0] m) 3)).alloc (.cells (madeCells #[.int .i64 0, .bool false, .bool false] (n * 3)) 76)) := by
  subst hz
  refine ⟨?_, (own_full1 W (.int .i64 0) m 3 (by unfold maxLen; omega)).alloc _, (hB.alloc (by omega) _).alloc (by simp; omega) _⟩
  have h := own_bk0 (W.alloc (.cells (madeCells #[.int .i64 0] m) 3)) n (by omega)
  rw [World.size_alloc] at h
  exact h
set_option linter.unusedSimpArgs false in
set_option maxHeartbeats 2000000 in
theorem lineNew_any (n t : Int) (w : World) (hn : -9223372036854775808 ≤ n ∧ n ≤ 9223372036854775807) :
    Calls Tryz.prog 16 #[.int .i64 n, .int .i64 t] w (LrR (nwO n t) w) := by
  have HBB : Hid (∀ a, Below w.heap.size w (w.alloc a)) := fun a => below_all _ _
  have hbx : ∀ o, (w.alloc (.cells #[.slice none 0 0, .slice none 0 0] 31)).cell? ⟨w.heap.size, o, none⟩ = (#[.slice none 0 0, .slice none 0 0] : Array Value)[o]? := box_new _ _ _
  have HSV := fun W => Lib.hid (sectionsValid_any n W hn)
  cases h1 : inB n 1 5
  · have HV := Lib.hid (nwO_n (t := t) h1)
    have H1 := Lib.hid h1
    clear h1 hn
    go_enter Tryz.func16, Tryz.ntmps16
    go_wp2_with fail
    refine (HSV _).out.mono ?_
    rintro e w' ⟨rfl, rfl⟩
    rw [H1.out]
    go_wp2_with fail
    exact bodyPost_ret (v := .tuple #[nilLn, .bool false]) (by simp [results, Tryz.results16, go_sem, hbx, nilLn]) rfl ⟨HBB.out _, .inl ⟨HV.out, rfl⟩⟩
  · have h1' := inB_true.1 h1
    have H1 := Lib.hid h1
    clear h1
    by_cases h2 : t < 0
    · have HV := Lib.hid (nwO_t (n := n) (inB_false.2 (by omega) : inB t 0 5 = false))
      clear hn
      go_enter Tryz.func16, Tryz.ntmps16
      go_wp2_with fail
      refine (HSV _).out.mono ?_
      rintro e w' ⟨rfl, rfl⟩
      rw [H1.out]
      go_wp2_with fail
      exact bodyPost_ret (v := .tuple #[nilLn, .bool false]) (by simp [results, Tryz.results16, go_sem, hbx, nilLn]) rfl ⟨HBB.out _, .inl ⟨HV.out, rfl⟩⟩
    by_cases h3 : 5 < t
    · have HV := Lib.hid (nwO_t (n := n) (inB_false.2 (by omega) : inB t 0 5 = false))
      clear hn
      go_enter Tryz.func16, Tryz.ntmps16
      go_wp2_with fail
      refine (HSV _).out.mono ?_
      rintro e w' ⟨rfl, rfl⟩
      rw [H1.out]
      go_wp2_with fail
      exact bodyPost_ret (v := .tuple #[nilLn, .bool false]) (by simp [results, Tryz.results16, go_sem, hbx, nilLn]) rfl ⟨HBB.out _, .inl ⟨HV.out, rfl⟩⟩
    obtain ⟨n, rfl⟩ := Int.eq_ofNat_of_zero_le (show 0 ≤ n by omega)
    obtain ⟨t, rfl⟩ := Int.eq_ofNat_of_zero_le (show 0 ≤ t by omega)
    have HV := Lib.hid (nwO_yes (n := n) (t := t) (inB_true.2 (by omega)) (inB_true.2 (by omega)))
    have hmkb := fun w => run_mk elBk n n (Nat.le_refl _) (by omega) (by omega) w
    have hmki := fun w => run_mk elInt t t (Nat.le_refl _) (by omega) (by omega) w
    simp only [Nat.mul_one] at hmki
    clear hn
    go_enter Tryz.func16, Tryz.ntmps16
    go_wp2_with fail
    refine (HSV _).out.mono ?_
    rintro e w' ⟨rfl, rfl⟩
    rw [H1.out]
    obtain ⟨W0, hW0⟩ : ∃ W0, W0 = (w.alloc (.cells #[.slice none 0 0, .slice none 0 0] 31)).drew := ⟨_, rfl⟩
    have hr0 : ∀ o, W0.cell? ⟨w.heap.size, o, none⟩ = (#[.slice none 0 0, .slice none 0 0] : Array Value)[o]? := by rw [hW0]; exact box_new _ _ _
    have hrf : ∀ o, W0.frozen? ⟨w.heap.size, o, none⟩ = false := by rw [hW0]; exact (Bx.new w 31 #[.slice none 0 0, .slice none 0 0]).free
    have hrs : w.heap.size < W0.heap.size := by rw [hW0]; simp
    have HB0 : Hid (Below w.heap.size w W0) := by rw [hW0]; exact (below_all w (.cells #[.slice none 0 0, .slice none 0 0] 31)).drew
    go_wp2_with fail
    refine wp_region_held_drew (S := (fun _ => True)) (by kernel_rfl) trivial (fun hHeld => ?_)
    rw [← hW0]
    clear hW0
    refine wpAnyH_take (i := 0) (oi := ?_) (v := ?_) ?_ (by kernel_rfl) (by kernel_rfl) (by kernel_rfl) ?_ ?_ (by assumption) ?_
    rotate_left 2
    · simp only [List.getElem?_toArray, List.getElem?_cons_succ, List.getElem?_cons_zero]; rfl
    · exact fun _ _ _ h => h
    · first
        | (refine Or.inr ⟨?_, ?_⟩ <;> rfl)
        | (refine Or.inl ⟨?_, ?_⟩; · rfl
           intro w hSw; (try dsimp only at hSw); go_simp; (try with_reducible rfl); done)
    try simp only [Act.put, List.setIfInBounds_toArray, List.set_cons_zero, List.set_cons_succ]
    refine wpAnyH_take (i := 2) (oi := ?_) (v := ?_) ?_ (by kernel_rfl) (by kernel_rfl) (by kernel_rfl) ?_ ?_ (by assumption) ?_
    rotate_left 2
    · simp only [List.getElem?_toArray, List.getElem?_cons_succ, List.getElem?_cons_zero]; rfl
    · exact fun _ _ _ h => h
    · first
        | (refine Or.inr ⟨?_, ?_⟩ <;> rfl)
        | (refine Or.inl ⟨?_, ?_⟩; · rfl
           intro w hSw; (try dsimp only at hSw); go_simp; (try with_reducible rfl); done)
    try simp only [Act.put, List.setIfInBounds_toArray, List.set_cons_zero, List.set_cons_succ]
    refine wpAnyH_ready (rs := [1, 3]) (by kernel_rfl) (by simp) ?_
    refine AllReadyH.cons (o := ?_) ?_ (fun K hK => ?_) ?_
    rotate_left 1
    · simp only [List.getElem?_toArray, List.getElem?_cons_succ, List.getElem?_cons_zero]; rfl
    · go_simp
      refine hK.out _ _ ?_ (fun hHeld => ?_)
      · exact trivial
      clear hK K
      try simp only [Act.put, List.setIfInBounds_toArray, List.set_cons_zero, List.set_cons_succ]
      refine wpAnyH_ready (rs := [3]) (by kernel_rfl) (by simp) ?_
      refine AllReadyH.cons (o := ?_) ?_ (fun K hK => ?_) AllReadyH.nil
      rotate_left 1
      · simp only [List.getElem?_toArray, List.getElem?_cons_succ, List.getElem?_cons_zero]; rfl
      go_simp
      refine hK.out _ _ ?_ (fun hHeld => ?_)
      · exact trivial
      clear hK K
      try simp only [Act.put, List.setIfInBounds_toArray, List.set_cons_zero, List.set_cons_succ]
      refine wpAnyH_take (i := 4) (oi := ?_) (v := ?_) ?_ (by kernel_rfl) (by kernel_rfl) (by kernel_rfl) ?_ ?_ (by assumption) ?_
      rotate_left 2
      · simp only [List.getElem?_toArray, List.getElem?_cons_succ, List.getElem?_cons_zero]; rfl
      · exact fun _ _ _ h => h
      · first
          | (refine Or.inr ⟨?_, ?_⟩ <;> rfl)
          | (refine Or.inl ⟨?_, ?_⟩; · rfl
             intro w hSw; (try dsimp only at hSw); go_simp; (try with_reducible rfl); done)
      try simp only [Act.put, List.setIfInBounds_toArray, List.set_cons_zero, List.set_cons_succ]
      refine wpAnyH_ready (rs := [5]) (by kernel_rfl) (by simp) ?_
      refine AllReadyH.cons (o := ?_) ?_ (fun K hK => ?_) AllReadyH.nil
      rotate_left 1
      · simp only [List.getElem?_toArray, List.getElem?_cons_succ, List.getElem?_cons_zero]; rfl
      go_simp
      refine hK.out _ _ ?_ (fun hHeld => ?_)
      · exact trivial
      clear hK K
      try simp only [Act.put, List.setIfInBounds_toArray, List.set_cons_zero, List.set_cons_succ]
      refine wpAnyH_take (i := 6) (oi := ?_) (v := ?_) ?_ (by kernel_rfl) (by kernel_rfl) (by kernel_rfl) ?_ ?_ (by assumption) ?_
      rotate_left 2
      · simp only [List.getElem?_toArray, List.getElem?_cons_succ, List.getElem?_cons_zero]; rfl
      · exact fun _ _ _ h => h
      · first
          | (refine Or.inr ⟨?_, ?_⟩ <;> rfl)
          | (refine Or.inl ⟨?_, ?_⟩; · rfl
             intro w hSw; (try dsimp only at hSw); go_simp; (try with_reducible rfl); done)
      try simp only [Act.put, List.setIfInBounds_toArray, List.set_cons_zero, List.set_cons_succ]
      refine wpAnyH_done (by kernel_rfl) ?_ _
      go_wp2_with fail
      refine bodyPost_ret (v := .tuple #[.agg #[.slice (some ⟨W0.heap.size, 0, none⟩) n n, .slice (some ⟨W0.heap.size + 1, 0, none⟩) t t], .bool true]) (by simp [results, Tryz.results16, Tryz.results17, go_sem, hr0, hrs]) rfl ?_
      obtain ⟨h1, h2, h3⟩ := nw_two (w := w) (W := (W0.setCell ⟨w.heap.size, 0, none⟩ (.slice (some ⟨W0.heap.size, 0, none⟩) n n)).setCell ⟨w.heap.size, 1, none⟩ (.slice (some ⟨W0.heap.size + 1, 0, none⟩) t t)) (z := W0.heap.size) (by simp) ((HB0.out.setCell (Nat.le_refl _) _).setCell (Nat.le_refl _) _) (by simp; omega) n t (by omega) (by omega)
      exact nw_done h1 h2 (by omega) (by omega) (by omega) h3 _ _ HV.out
    · refine AllReadyH.cons (o := ?_) ?_ (fun K hK => ?_) ?_
      rotate_left 1
      · simp only [List.getElem?_toArray, List.getElem?_cons_succ, List.getElem?_cons_zero]; rfl
      · go_simp
        refine hK.out _ _ ?_ (fun hHeld => ?_)
        · exact trivial
        clear hK K
        try simp only [Act.put, List.setIfInBounds_toArray, List.set_cons_zero, List.set_cons_succ]
        refine wpAnyH_ready (rs := [1]) (by kernel_rfl) (by simp) ?_
        refine AllReadyH.cons (o := ?_) ?_ (fun K hK => ?_) AllReadyH.nil
        rotate_left 1
        · simp only [List.getElem?_toArray, List.getElem?_cons_succ, List.getElem?_cons_zero]; rfl
        go_simp
        refine hK.out _ _ ?_ (fun hHeld => ?_)
        · exact trivial
        clear hK K
        try simp only [Act.put, List.setIfInBounds_toArray, List.set_cons_zero, List.set_cons_succ]
        refine wpAnyH_take (i := 4) (oi := ?_) (v := ?_) ?_ (by kernel_rfl) (by kernel_rfl) (by kernel_rfl) ?_ ?_ (by assumption) ?_
        rotate_left 2
        · simp only [List.getElem?_toArray, List.getElem?_cons_succ, List.getElem?_cons_zero]; rfl
        · exact fun _ _ _ h => h
        · first
            | (refine Or.inr ⟨?_, ?_⟩ <;> rfl)
            | (refine Or.inl ⟨?_, ?_⟩; · rfl
               intro w hSw; (try dsimp only at hSw); go_simp; (try with_reducible rfl); done)
        try simp only [Act.put, List.setIfInBounds_toArray, List.set_cons_zero, List.set_cons_succ]
        refine wpAnyH_ready (rs := [5]) (by kernel_rfl) (by simp) ?_
        refine AllReadyH.cons (o := ?_) ?_ (fun K hK => ?_) AllReadyH.nil
        rotate_left 1
        · simp only [List.getElem?_toArray, List.getElem?_cons_succ, List.getElem?_cons_zero]; rfl
        go_simp
        refine hK.out _ _ ?_ (fun hHeld => ?_)
        · exact trivial
        clear hK K
        try simp only [Act.put, List.setIfInBounds_toArray, List.set_cons_zero, List.set_cons_succ]
        refine wpAnyH_take (i := 6) (oi := ?_) (v := ?_) ?_ (by kernel_rfl) (by kernel_rfl) (by kernel_rfl) ?_ ?_ (by assumption) ?_
        rotate_left 2
        · simp only [List.getElem?_toArray, List.getElem?_cons_succ, List.getElem?_cons_zero]; rfl
        · exact fun _ _ _ h => h
        · first
            | (refine Or.inr ⟨?_, ?_⟩ <;> rfl)
            | (refine Or.inl ⟨?_, ?_⟩; · rfl
               intro w hSw; (try dsimp only at hSw); go_simp; (try with_reducible rfl); done)
        try simp only [Act.put, List.setIfInBounds_toArray, List.set_cons_zero, List.set_cons_succ]
        refine wpAnyH_done (by kernel_rfl) ?_ _
        go_wp2_with fail
        refine bodyPost_ret (v := .tuple #[.agg #[.slice (some ⟨W0.heap.size + 1, 0, none⟩) n n, .slice (some ⟨W0.heap.size, 0, none⟩) t t], .bool true]) (by simp [results, Tryz.results16, Tryz.results17, go_sem, hr0, hrs]) rfl ?_
        obtain ⟨h1, h2, h3⟩ := nw_two' (w := w) (W := (W0.setCell ⟨w.heap.size, 0, none⟩ (.slice (some ⟨W0.heap.size + 1, 0, none⟩) n n)).setCell ⟨w.heap.size, 1, none⟩ (.slice (some ⟨W0.heap.size, 0, none⟩) t t)) (z := W0.heap.size) (by simp) ((HB0.out.setCell (Nat.le_refl _) _).setCell (Nat.le_refl _) _) (by simp; omega) n t (by omega) (by omega)
        exact nw_done h1 h2 (by omega) (by omega) (by omega) h3 _ _ HV.out
      · exact AllReadyH.nil
set_option linter.unusedSimpArgs false in
set_option maxHeartbeats 2000000 in
theorem specLineNew_any (n t : Int) (w : World) :
    Calls Tryz.prog 17 #[.int .i64 n, .int .i64 t] w (LrR (nwO n t) w) := by
  have HBB : Hid (∀ a, Below w.heap.size w (w.alloc a)) := fun a => below_all _ _
  have hbx : ∀ o, (w.alloc (.cells #[.slice none 0 0, .slice none 0 0] 31)).cell? ⟨w.heap.size, o, none⟩ = (#[.slice none 0 0, .slice none 0 0] : Array Value)[o]? := box_new _ _ _
  cases h1 : inB n 1 5
  · have HV := Lib.hid (nwO_n (t := t) h1)
    have H1 := Lib.hid h1
    clear h1
    go_enter Tryz.func17, Tryz.ntmps17
    go_wp2_with fail
    refine (l6In_any _ _ _ _).mono ?_
    rintro e w' ⟨rfl, rfl⟩
    rw [H1.out]
    go_wp2_with fail
    exact bodyPost_ret (v := .tuple #[nilLn, .bool false]) (by simp [results, Tryz.results17, go_sem, hbx, nilLn]) rfl ⟨HBB.out _, .inl ⟨HV.out, rfl⟩⟩
  cases h2 : inB t 0 5
  · have HV := Lib.hid (nwO_t (n := n) h2)
    have H1 := Lib.hid h1
    have H2 := Lib.hid h2
    clear h1 h2
    go_enter Tryz.func17, Tryz.ntmps17
    go_wp2_with fail
    refine (l6In_any _ _ _ _).mono ?_
    rintro e w' ⟨rfl, rfl⟩
    rw [H1.out]
    go_wp2_with fail
    refine (l6In_any _ _ _ _).mono ?_
    rintro e w' ⟨rfl, rfl⟩
    rw [H2.out]
    go_wp2_with fail
    exact bodyPost_ret (v := .tuple #[nilLn, .bool false]) (by simp [results, Tryz.results17, go_sem, hbx, nilLn]) rfl ⟨HBB.out _, .inl ⟨HV.out, rfl⟩⟩
  have h1' := inB_true.1 h1
  have h2' := inB_true.1 h2
  obtain ⟨n, rfl⟩ := Int.eq_ofNat_of_zero_le (show 0 ≤ n by omega)
  obtain ⟨t, rfl⟩ := Int.eq_ofNat_of_zero_le (show 0 ≤ t by omega)
  have HV := Lib.hid (nwO_yes (n := n) (t := t) h1 h2)
  have H1 := Lib.hid h1
  have H2 := Lib.hid h2
  clear h1 h2
  have hmkb := fun w => run_mk elBk n n (Nat.le_refl _) (by omega) (by omega) w
  have hmki := fun w => run_mk elInt t t (Nat.le_refl _) (by omega) (by omega) w
  simp only [Nat.mul_one] at hmki
  go_enter Tryz.func17, Tryz.ntmps17
  go_wp2_with fail
  refine (l6In_any _ _ _ _).mono ?_
  rintro e w' ⟨rfl, rfl⟩
  rw [H1.out]
  go_wp2_with fail
  refine (l6In_any _ _ _ _).mono ?_
  rintro e w' ⟨rfl, rfl⟩
  rw [H2.out]
  obtain ⟨W0, hW0⟩ : ∃ W0, W0 = (w.alloc (.cells #[.slice none 0 0, .slice none 0 0] 31)).drew := ⟨_, rfl⟩
  have hr0 : ∀ o, W0.cell? ⟨w.heap.size, o, none⟩ = (#[.slice none 0 0, .slice none 0 0] : Array Value)[o]? := by rw [hW0]; exact box_new _ _ _
  have hrf : ∀ o, W0.frozen? ⟨w.heap.size, o, none⟩ = false := by rw [hW0]; exact (Bx.new w 31 #[.slice none 0 0, .slice none 0 0]).free
  have hrs : w.heap.size < W0.heap.size := by rw [hW0]; simp
  have HB0 : Hid (Below w.heap.size w W0) := by rw [hW0]; exact (below_all w (.cells #[.slice none 0 0, .slice none 0 0] 31)).drew
  go_wp2_with fail
  refine wp_region_held_drew (S := (fun _ => True)) (by kernel_rfl) trivial (fun hHeld => ?_)
  rw [← hW0]
  clear hW0
  refine wpAnyH_take (i := 0) (oi := ?_) (v := ?_) ?_ (by kernel_rfl) (by kernel_rfl) (by kernel_rfl) ?_ ?_ (by assumption) ?_
  rotate_left 2
  · simp only [List.getElem?_toArray, List.getElem?_cons_succ, List.getElem?_cons_zero]; rfl
  · exact fun _ _ _ h => h
  · first
      | (refine Or.inr ⟨?_, ?_⟩ <;> rfl)
      | (refine Or.inl ⟨?_, ?_⟩; · rfl
         intro w hSw; (try dsimp only at hSw); go_simp; (try with_reducible rfl); done)
  try simp only [Act.put, List.setIfInBounds_toArray, List.set_cons_zero, List.set_cons_succ]
  refine wpAnyH_take (i := 2) (oi := ?_) (v := ?_) ?_ (by kernel_rfl) (by kernel_rfl) (by kernel_rfl) ?_ ?_ (by assumption) ?_
  rotate_left 2
  · simp only [List.getElem?_toArray, List.getElem?_cons_succ, List.getElem?_cons_zero]; rfl
  · exact fun _ _ _ h => h
  · first
      | (refine Or.inr ⟨?_, ?_⟩ <;> rfl)
      | (refine Or.inl ⟨?_, ?_⟩; · rfl
         intro w hSw; (try dsimp only at hSw); go_simp; (try with_reducible rfl); done)
  try simp only [Act.put, List.setIfInBounds_toArray, List.set_cons_zero, List.set_cons_succ]
  refine wpAnyH_ready (rs := [1, 3]) (by kernel_rfl) (by simp) ?_
  refine AllReadyH.cons (o := ?_) ?_ (fun K hK => ?_) ?_
  rotate_left 1
  · simp only [List.getElem?_toArray, List.getElem?_cons_succ, List.getElem?_cons_zero]; rfl
  · go_simp
    refine hK.out _ _ ?_ (fun hHeld => ?_)
    · exact trivial
    clear hK K
    try simp only [Act.put, List.setIfInBounds_toArray, List.set_cons_zero, List.set_cons_succ]
    refine wpAnyH_ready (rs := [3]) (by kernel_rfl) (by simp) ?_
    refine AllReadyH.cons (o := ?_) ?_ (fun K hK => ?_) AllReadyH.nil
    rotate_left 1
    · simp only [List.getElem?_toArray, List.getElem?_cons_succ, List.getElem?_cons_zero]; rfl
    go_simp
    refine hK.out _ _ ?_ (fun hHeld => ?_)
    · exact trivial
    clear hK K
    try simp only [Act.put, List.setIfInBounds_toArray, List.set_cons_zero, List.set_cons_succ]
    refine wpAnyH_take (i := 4) (oi := ?_) (v := ?_) ?_ (by kernel_rfl) (by kernel_rfl) (by kernel_rfl) ?_ ?_ (by assumption) ?_
    rotate_left 2
    · simp only [List.getElem?_toArray, List.getElem?_cons_succ, List.getElem?_cons_zero]; rfl
    · exact fun _ _ _ h => h
    · first
        | (refine Or.inr ⟨?_, ?_⟩ <;> rfl)
        | (refine Or.inl ⟨?_, ?_⟩; · rfl
           intro w hSw; (try dsimp only at hSw); go_simp; (try with_reducible rfl); done)
    try simp only [Act.put, List.setIfInBounds_toArray, List.set_cons_zero, List.set_cons_succ]
    refine wpAnyH_ready (rs := [5]) (by kernel_rfl) (by simp) ?_
    refine AllReadyH.cons (o := ?_) ?_ (fun K hK => ?_) AllReadyH.nil
    rotate_left 1
    · simp only [List.getElem?_toArray, List.getElem?_cons_succ, List.getElem?_cons_zero]; rfl
    go_simp
    refine hK.out _ _ ?_ (fun hHeld => ?_)
    · exact trivial
    clear hK K
    try simp only [Act.put, List.setIfInBounds_toArray, List.set_cons_zero, List.set_cons_succ]
    refine wpAnyH_take (i := 6) (oi := ?_) (v := ?_) ?_ (by kernel_rfl) (by kernel_rfl) (by kernel_rfl) ?_ ?_ (by assumption) ?_
    rotate_left 2
    · simp only [List.getElem?_toArray, List.getElem?_cons_succ, List.getElem?_cons_zero]; rfl
    · exact fun _ _ _ h => h
    · first
        | (refine Or.inr ⟨?_, ?_⟩ <;> rfl)
        | (refine Or.inl ⟨?_, ?_⟩; · rfl
           intro w hSw; (try dsimp only at hSw); go_simp; (try with_reducible rfl); done)
    try simp only [Act.put, List.setIfInBounds_toArray, List.set_cons_zero, List.set_cons_succ]
    refine wpAnyH_done (by kernel_rfl) ?_ _
    go_wp2_with fail
    refine bodyPost_ret (v := .tuple #[.agg #[.slice (some ⟨W0.heap.size, 0, none⟩) n n, .slice (some ⟨W0.heap.size + 1, 0, none⟩) t t], .bool true]) (by simp [results, Tryz.results16, Tryz.results17, go_sem, hr0, hrs]) rfl ?_
    obtain ⟨h1, h2, h3⟩ := nw_two (w := w) (W := (W0.setCell ⟨w.heap.size, 0, none⟩ (.slice (some ⟨W0.heap.size, 0, none⟩) n n)).setCell ⟨w.heap.size, 1, none⟩ (.slice (some ⟨W0.heap.size + 1, 0, none⟩) t t)) (z := W0.heap.size) (by simp) ((HB0.out.setCell (Nat.le_refl _) _).setCell (Nat.le_refl _) _) (by simp; omega) n t (by omega) (by omega)
    exact nw_done h1 h2 (by omega) (by omega) (by omega) h3 _ _ HV.out
  · refine AllReadyH.cons (o := ?_) ?_ (fun K hK => ?_) ?_
    rotate_left 1
    · simp only [List.getElem?_toArray, List.getElem?_cons_succ, List.getElem?_cons_zero]; rfl
    · go_simp
      refine hK.out _ _ ?_ (fun hHeld => ?_)
      · exact trivial
      clear hK K
      try simp only [Act.put, List.setIfInBounds_toArray, List.set_cons_zero, List.set_cons_succ]
      refine wpAnyH_ready (rs := [1]) (by kernel_rfl) (by simp) ?_
      refine AllReadyH.cons (o := ?_) ?_ (fun K hK => ?_) AllReadyH.nil
      rotate_left 1
      · simp only [List.getElem?_toArray, List.getElem?_cons_succ, List.getElem?_cons_zero]; rfl
      go_simp
      refine hK.out _ _ ?_ (fun hHeld => ?_)
      · exact trivial
      clear hK K
      try simp only [Act.put, List.setIfInBounds_toArray, List.set_cons_zero, List.set_cons_succ]
      refine wpAnyH_take (i := 4) (oi := ?_) (v := ?_) ?_ (by kernel_rfl) (by kernel_rfl) (by kernel_rfl) ?_ ?_ (by assumption) ?_
      rotate_left 2
      · simp only [List.getElem?_toArray, List.getElem?_cons_succ, List.getElem?_cons_zero]; rfl
      · exact fun _ _ _ h => h
      · first
          | (refine Or.inr ⟨?_, ?_⟩ <;> rfl)
          | (refine Or.inl ⟨?_, ?_⟩; · rfl
             intro w hSw; (try dsimp only at hSw); go_simp; (try with_reducible rfl); done)
      try simp only [Act.put, List.setIfInBounds_toArray, List.set_cons_zero, List.set_cons_succ]
      refine wpAnyH_ready (rs := [5]) (by kernel_rfl) (by simp) ?_
      refine AllReadyH.cons (o := ?_) ?_ (fun K hK => ?_) AllReadyH.nil
      rotate_left 1
      · simp only [List.getElem?_toArray, List.getElem?_cons_succ, List.getElem?_cons_zero]; rfl
      go_simp
      refine hK.out _ _ ?_ (fun hHeld => ?_)
      · exact trivial
      clear hK K
      try simp only [Act.put, List.setIfInBounds_toArray, List.set_cons_zero, List.set_cons_succ]
      refine wpAnyH_take (i := 6) (oi := ?_) (v := ?_) ?_ (by kernel_rfl) (by kernel_rfl) (by kernel_rfl) ?_ ?_ (by assumption) ?_
      rotate_left 2
      · simp only [List.getElem?_toArray, List.getElem?_cons_succ, List.getElem?_cons_zero]; rfl
      · exact fun _ _ _ h => h
      · first
          | (refine Or.inr ⟨?_, ?_⟩ <;> rfl)
          | (refine Or.inl ⟨?_, ?_⟩; · rfl
             intro w hSw; (try dsimp only at hSw); go_simp; (try with_reducible rfl); done)
      try simp only [Act.put, List.setIfInBounds_toArray, List.set_cons_zero, List.set_cons_succ]
      refine wpAnyH_done (by kernel_rfl) ?_ _
      go_wp2_with fail
      refine bodyPost_ret (v := .tuple #[.agg #[.slice (some ⟨W0.heap.size + 1, 0, none⟩) n n, .slice (some ⟨W0.heap.size, 0, none⟩) t t], .bool true]) (by simp [results, Tryz.results16, Tryz.results17, go_sem, hr0, hrs]) rfl ?_
      obtain ⟨h1, h2, h3⟩ := nw_two' (w := w) (W := (W0.setCell ⟨w.heap.size, 0, none⟩ (.slice (some ⟨W0.heap.size + 1, 0, none⟩) n n)).setCell ⟨w.heap.size, 1, none⟩ (.slice (some ⟨W0.heap.size, 0, none⟩) t t)) (z := W0.heap.size) (by simp) ((HB0.out.setCell (Nat.le_refl _) _).setCell (Nat.le_refl _) _) (by simp; omega) n t (by omega) (by omega)
      exact nw_done h1 h2 (by omega) (by omega) (by omega) h3 _ _ HV.out
    · exact AllReadyH.nil
end Go.Proofs.YtlkdmpfifpkpaaaGreatDoor
namespace Go.Proofs.YtlkdmpfifpkpaaaGreatDoor
open Go.RowKit

theorem cntA_none {f : Nat → Int} {p : Int} (h : ∀ i, f i ≠ p) : ∀ m, cntA f p m = 0
  | 0 => rfl
  | m + 1 => by
    simp only [cntA]
    rw [cntA_none h m, if_neg (h m)]
theorem newL_vld {n m : Nat} (h1 : 1 ≤ n) (h2 : n ≤ 5) (h3 : m ≤ 5) : vldL (newL n m) = true := by
  refine vldL_of (inB_true.2 ⟨by show (1 : Int) ≤ (n : Int); omega, by show (n : Int) ≤ 5; omega⟩) h3 (fun k _ => rfl) (fun i _ => ?_) (fun k _ => ?_)
  · rw [trOk_true]
    exact ⟨⟨Int.le_refl _, by show (0 : Int) ≤ 2 * (n : Int); omega⟩, .inr (Int.le_refl _)⟩
  · rw [cnOk_true]
    show cntA (fun _ => 0) (2 * (k : Int) + 1) m = 0
    exact cntA_none (fun i => by omega) m
/-- the boxes of the draw of a line -/
structure DlM (w wr : World) (R b3 g1 c1 g2 c2 : Nat) (y : Ln) (M : Nat) : Prop where
  res : Bx wr w.heap.size 31 #[.slice none 0 0, .slice none 0 0]
  box : Bx wr b3 31 #[.slice (some ⟨g1, 0, none⟩) y.n c1, .slice (some ⟨g2, 0, none⟩) y.m c2]
  bs : Own wr g1 c1 y.n 3 76 (bkF y.N y.I y.O)
  ts : Own wr g2 c2 y.m 1 3 (fun i => .int .i64 (y.T i))
  d : g1 ≠ g2
  d1 : b3 ≠ g1
  d2 : b3 ≠ g2
  h1 : w.heap.size < g1
  h2 : w.heap.size < g2
  h3 : w.heap.size < b3
  rd : RdL wr R M
  hR : R < w.heap.size
  gr : w.grownBy wr (some R)
section
variable {w wr w' : World} {R b3 g1 c1 g2 c2 M M' : Nat} {y : Ln}
theorem DlM.lts (h : DlM w wr R b3 g1 c1 g2 c2 y M) : w.heap.size < wr.heap.size ∧ b3 < wr.heap.size ∧ g1 < wr.heap.size ∧ g2 < wr.heap.size := ⟨h.res.lt, h.box.lt, h.bs.lt, h.ts.lt⟩
theorem DlM.below (h : DlM w wr R b3 g1 c1 g2 c2 y M) (hb : Below wr.heap.size wr w') : DlM w w' R b3 g1 c1 g2 c2 y M := by
  obtain ⟨z0, z1, z2, z3⟩ := h.lts
  exact ⟨h.res.below hb z0, h.box.below hb z1, h.bs.below hb z2, h.ts.below hb z3, h.d, h.d1, h.d2, h.h1, h.h2, h.h3, h.rd.keep hb, h.hR, grownBy_trans h.gr (grownBy_below hb _)⟩
theorem DlM.drew (h : DlM w wr R b3 g1 c1 g2 c2 y M) : DlM w wr.drew R b3 g1 c1 g2 c2 y M := h.below (Below.refl _ _).drew
theorem grow_set {b o : Nat} {v : Value} (h : w.grownBy wr (some R)) (hb : w.heap.size ≤ b) : w.grownBy (wr.setCell ⟨b, o, none⟩ v) (some R) :=
  grow_new h (grownBy_setCell wr b o v) hb
theorem DlM.setBk (h : DlM w wr R b3 g1 c1 g2 c2 y M) (k : Nat) (a : Int) (b c : Bool) :
    DlM w (((wr.setCell ⟨g1, k * 3, none⟩ (.int .i64 a)).setCell ⟨g1, k * 3 + 1, none⟩ (.bool b)).setCell ⟨g1, k * 3 + 2, none⟩ (.bool c)) R b3 g1 c1 g2 c2 { y with N := upd y.N k a, I := upd y.I k b, O := upd y.O k c } M := by
  have a1 := h.h1
  have a4 := h.hR
  have d := h.d
  have d1 := h.d1
  exact ⟨((h.res.setOther (by dsimp only; omega) _).setOther (by dsimp only; omega) _).setOther (by dsimp only; omega) _, ((h.box.setOther (by dsimp only; omega) _).setOther (by dsimp only; omega) _).setOther (by dsimp only; omega) _, h.bs.setBk k a b c,
    ((h.ts.setOther (by dsimp only; omega) _).setOther (by dsimp only; omega) _).setOther (by dsimp only; omega) _, h.d, h.d1, h.d2, h.h1, h.h2, h.h3, ((h.rd.set (by omega)).set (by omega)).set (by omega), a4, grow_set (grow_set (grow_set h.gr (by omega)) (by omega)) (by omega)⟩
theorem DlM.setTr (h : DlM w wr R b3 g1 c1 g2 c2 y M) (k : Nat) (a : Int) :
    DlM w (wr.setCell ⟨g2, k, none⟩ (.int .i64 a)) R b3 g1 c1 g2 c2 { y with T := upd y.T k a } M := by
  have a1 := h.h2
  have a4 := h.hR
  have d := h.d
  have d2 := h.d2
  exact ⟨h.res.setOther (by dsimp only; omega) _, h.box.setOther (by dsimp only; omega) _, h.bs.setOther (by dsimp only; omega) _, h.ts.setInt k a, h.d, h.d1, h.d2, h.h1, h.h2, h.h3, h.rd.set (by omega), a4, grow_set h.gr (by omega)⟩
/-- one train more -/
theorem DlM.push {wa : World} {g' c' : Nat} {a : Int} (h : DlM w wr R b3 g1 c1 g2 c2 y M) (HA : Own wa g' c' (y.m + 1) 1 3 (fun i => .int .i64 (if i = y.m then a else y.T i))) (hg : wr.grownBy wa (some g2)) (hd : (g' = g2 ∧ c' = c2) ∨ wr.heap.size < g') :
    DlM w (wa.setCell ⟨b3, 1, none⟩ (.slice (some ⟨g', 0, none⟩) (y.m + 1) c')) R b3 g1 c1 g' c' { y with m := y.m + 1, T := upd y.T y.m a } M := by
  have a1 := h.h1
  have a2 := h.h2
  have a3 := h.h3
  have a4 := h.hR
  have d := h.d
  have d1 := h.d1
  have d2 := h.d2
  obtain ⟨z0, z1, z2, z3⟩ := h.lts
  have e1 : g1 ≠ g' := by rcases hd with ⟨q, _⟩ | q <;> omega
  have e2 : b3 ≠ g' := by rcases hd with ⟨q, _⟩ | q <;> omega
  have e3 : w.heap.size < g' := by rcases hd with ⟨q, _⟩ | q <;> omega
  refine ⟨(h.res.kept hg (by omega)).setOther (by dsimp only; omega) _, ?_, (h.bs.kept hg (by simp; omega)).setOther (by dsimp only; omega) _, Own.setOther HA (by dsimp only; omega) _, e1, d1, e2, a1, e3, a3, (h.rd.kept hg (by omega)).set (by omega), a4, grow_set (grow_new h.gr hg (by omega)) (by omega)⟩
  have hb := (h.box.kept hg (by omega)).set 1 (.slice (some ⟨g', 0, none⟩) (y.m + 1) c')
  simpa using hb
end
/-- a drawn line -/
def DLn (R M : Nat) (w : World) (e : Ending) (w' : World) : Prop :=
  ∃ v x, e = .returned v ∧ LnO w.heap.size w' v x ∧ 1 ≤ x.n ∧ x.n ≤ 4 ∧ x.m ≤ 5 ∧ RdL w' R M ∧ w.grownBy w' (some R)
theorem DlM.done {w wr : World} {R b3 g1 c1 g2 c2 M M' : Nat} {y : Ln} (h : DlM w wr R b3 g1 c1 g2 c2 y M) (h1 : 1 ≤ y.n) (h2 : y.n ≤ 4) (h3 : y.m ≤ 5) (hM : M ≤ M') (u0 u1 : Value) :
    DLn R M' w (.returned (.agg #[.slice (some ⟨g1, 0, none⟩) y.n c1, .slice (some ⟨g2, 0, none⟩) y.m c2])) ((wr.setCell ⟨w.heap.size, 0, none⟩ u0).setCell ⟨w.heap.size, 1, none⟩ u1) := by
  have a1 := h.h1
  have a2 := h.h2
  have a4 := h.hR
  exact ⟨_, y, rfl, ⟨g1, c1, g2, c2, rfl, (h.bs.setOther (by dsimp only; omega) _).setOther (by dsimp only; omega) _, (h.ts.setOther (by dsimp only; omega) _).setOther (by dsimp only; omega) _, h.d, by omega, by omega⟩, h1, h2, h3, (((h.rd.set (by omega)).set (by omega)).mono hM), grow_set (grow_set h.gr (Nat.le_refl _)) (Nat.le_refl _)⟩
end Go.Proofs.YtlkdmpfifpkpaaaGreatDoor
namespace Go.Proofs.YtlkdmpfifpkpaaaGreatDoor
open Go.RowKit

/-- a move saves at most one -/
theorem lef_one {x : Ln} {s : Int} {l : ByteArray} (hv : vldL x = true) (ho : mvOk x s l = true) : lefS x x.n ≤ lefS (mvTo x s l) x.n + 1 := by
  obtain ⟨k, c, rfl, hk, rfl, hJ, hJ5, _⟩ := mv_is ho
  obtain ⟨h1, h2⟩ := lefT_mv ho hk
  have e1 := lefS_T hv x.n (Nat.le_refl _)
  have e2 : lefS (mvTo x k (chr c)) x.n = lefT (mvTo x k (chr c)) x.n := lefS_T (vld_mv hv ho) x.n (Nat.le_refl _)
  rw [e1, e2]
  rw [hJ] at hJ5 h1 h2
  suffices h : lefK (sk x k) (tk x k) ≤ lefK (nx (sk x k) c.toNat) (tk (mvTo x k (chr c)) k) + 1 by omega
  generalize tk (mvTo x k (chr c)) k = t' at *
  generalize tk x k = t at *
  rcases nx_cases hJ5 with ⟨a, b, d⟩ | ⟨a, b, d⟩ | ⟨a, b, d⟩ | ⟨a, b, d⟩ | ⟨a, b, d⟩ | ⟨a, b, d⟩ | ⟨a, b, d⟩
  all_goals
    rw [d] at h2 ⊢
    rw [a] at h2 ⊢
    simp only [lefK]
    (try split) <;> (try split) <;> omega
/-- a run of moves -/
def runL : Ln → List (Int × ByteArray) → Option Ln
  | x, [] => some x
  | x, z :: ms => (stepO x z.1 z.2).bind fun y => runL y ms
theorem runL_app : ∀ (a b : List (Int × ByteArray)) (x : Ln), runL x (a ++ b) = (runL x a).bind fun y => runL y b
  | [], b, x => rfl
  | z :: a, b, x => by
    show (stepO x z.1 z.2).bind (fun y => runL y (a ++ b)) = ((stepO x z.1 z.2).bind fun y => runL y a).bind fun y => runL y b
    cases stepO x z.1 z.2 with
    | none => rfl
    | some y => exact runL_app a b y
theorem runO_runL (x : Ln) (ms : List (Int × ByteArray)) : ∀ k, k ≤ ms.length → runO x (mvM ms) (mvS ms) k = runL x (ms.take k)
  | 0, _ => rfl
  | k + 1, h => by
    have hk : k < ms.length := by omega
    rw [List.take_succ_eq_append_getElem hk, runL_app]
    show (runO x (mvM ms) (mvS ms) k).bind _ = _
    rw [runO_runL x ms k (by omega)]
    congr 1
    funext y
    show stepO y (mvM ms k) (mvS ms k) = (stepO y ms[k].1 ms[k].2).bind fun y => some y
    unfold mvM mvS
    rw [List.getElem?_eq_getElem hk]
    show stepO y ms[k].1 ms[k].2 = _
    cases stepO y ms[k].1 ms[k].2 <;> rfl
theorem runO_all (x : Ln) (ms : List (Int × ByteArray)) : runO x (mvM ms) (mvS ms) ms.length = runL x ms := by
  rw [runO_runL x ms _ (Nat.le_refl _), List.take_length]
theorem near_step {x : Ln} {y : Int × ByteArray} (hv : vldL x = true) (h : nearM x = some y) : stepO x y.1 y.2 = some (mvTo x y.1 y.2) ∧ vldL (mvTo x y.1 y.2) = true ∧ lefS (mvTo x y.1 y.2) (mvTo x y.1 y.2).n + 1 = lefS x x.n := by
  obtain ⟨h1, h2⟩ := near_less h
  have h3 := lef_one hv h1
  refine ⟨by unfold stepO; rw [h1]; rfl, vld_mv hv h1, ?_⟩
  have e : (mvTo x y.1 y.2).n = x.n := rfl
  rw [e] at h2 ⊢
  omega
/-- the run of LineFinish's moves: what is behind k of them -/
theorem fin_run : ∀ (q : Nat) (x : Ln), vldL x = true → lefS x x.n = q → (finX x).length = q ∧ ∀ k, k ≤ q → ∃ y, runL x ((finX x).take k) = some y ∧ vldL y = true ∧ lefS y y.n = ((q - k : Nat) : Int) ∧ finX y = (finX x).drop k ∧ y.n = x.n ∧ y.m = x.m
  | 0, x, hv, h => by
    have e : finX x = [] := finX_done (by omega)
    refine ⟨by rw [e]; rfl, fun k hk => ?_⟩
    obtain rfl : k = 0 := by omega
    exact ⟨x, by rw [e]; rfl, hv, by rw [h], by rw [e]; rfl, rfl, rfl⟩
  | q + 1, x, hv, h => by
    obtain ⟨z, hz, _⟩ := nearM_some hv (by omega)
    obtain ⟨h1, h2, h3⟩ := near_step hv hz
    have ih := fin_run q (mvTo x z.1 z.2) h2 (by omega)
    have e : finX x = z :: finX (mvTo x z.1 z.2) := finX_step (by omega) hz
    refine ⟨by rw [e, List.length_cons, ih.1], fun k hk => ?_⟩
    match k with
    | 0 => exact ⟨x, by rw [List.take_zero]; rfl, hv, by rw [h]; simp, by rw [List.drop_zero], rfl, rfl⟩
    | k + 1 =>
      obtain ⟨y, g1, g2, g3, g4, g5, g6⟩ := ih.2 k (by omega)
      refine ⟨y, ?_, g2, by rw [g3]; congr 1 <;> omega, by rw [e, List.drop_succ_cons]; exact g4, g5, g6⟩
      rw [e, List.take_succ_cons]
      show (stepO x z.1 z.2).bind _ = _
      rw [h1]
      exact g1
theorem lefT_zero {x : Ln} : ∀ n, lefT x n = 0 → ∀ k, k < n → lefK (sk x k) (tk x k) = 0
  | 0, _, k, hk => by omega
  | n + 1, h, k, hk => by
    have h1 := lefK_pos (sk x n) (tk x n)
    have h2 : 0 ≤ lefT x n := by
      have : ∀ n, 0 ≤ lefT x n := fun n => by
        induction n with
        | zero => exact Int.le_refl _
        | succ n ih => have := lefK_pos (sk x n) (tk x n); simp only [lefT]; omega
      exact this n
    simp only [lefT] at h
    rcases Nat.lt_or_ge k n with h3 | h3
    · exact lefT_zero n (by omega) k h3
    · obtain rfl : k = n := by omega
      omega
theorem lefT_nil {x : Ln} : ∀ n, (∀ k, k < n → lefK (sk x k) (tk x k) = 0) → lefT x n = 0
  | 0, _ => rfl
  | n + 1, h => by
    simp only [lefT]
    rw [lefT_nil n (fun k hk => h k (by omega)), h n (by omega)]
    rfl
theorem lefK_zero {s t : Nat} (h : lefK s t = 0) : s = 0 ∧ t = 0 := by
  unfold lefK at h
  split at h <;> (try split at h) <;> omega
theorem nrm_sk {x : Ln} {k : Nat} (h : nrmB x k = true) : sk x k = 0 := by
  unfold nrmB at h
  simp only [Bool.and_eq_true, decide_eq_true_eq, Bool.not_eq_true'] at h
  obtain ⟨h1, h2, h3⟩ := h
  unfold sk
  rw [h1, h2, h3]
  rfl
theorem leA_none {f : Nat → Int} {p : Int} : ∀ m, (∀ i, i < m → ¬ f i ≤ p) → leA f p m = 0
  | 0, _ => rfl
  | m + 1, h => by
    simp only [leA]
    rw [leA_none m (fun i hi => h i (by omega)), if_neg (h m (by omega))]
/-- a valid line is done when no move is left -/
theorem done_left {x : Ln} (hv : vldL x = true) : donL x = decide (lefS x x.n = 0) := by
  have hb := vldL_true hv
  rw [donL_dn4, hv, Bool.true_and, lefS_T hv x.n (Nat.le_refl _), Bool.eq_iff_iff, decide_eq_true_eq]
  unfold dn4
  rw [Bool.and_eq_true, allB_true, allB_true]
  unfold atEnd
  simp only [decide_eq_true_eq]
  constructor
  · rintro ⟨h1, h2⟩
    refine lefT_nil x.n (fun k hk => ?_)
    have e : tk x k = 0 := leA_none x.m (fun i hi => by rw [h2 i hi]; omega)
    rw [nrm_sk (h1 k hk), e]
    rfl
  · intro h
    have hz := lefT_zero x.n h
    refine ⟨fun k hk => ?_, fun i hi => ?_⟩
    · have h0 := (lefK_zero (hz k hk)).1
      have hs := sk_N hv hk
      have hi := sk_I hv hk
      rw [h0] at hs hi
      unfold nrmB
      rw [hs.1, hs.2, hi]
      rfl
    · have ht := (trOk_true.1 (hb.2.2.2.2.1 i hi)).1
      have hn1 : 0 < x.n := by omega
      have h0 := lefK_zero (hz (x.n - 1) (by omega))
      have h1 : ¬ x.T i ≤ 2 * ((x.n - 1 : Nat) : Int) := fun hle => by
        have := leA_pos hle x.m hi
        have h2 : leA x.T (2 * ((x.n - 1 : Nat) : Int)) x.m = 0 := h0.2
        omega
      have h2 : x.T i ≠ 2 * ((x.n - 1 : Nat) : Int) + 1 := fun he => by
        have h3 := cntA_pos he x.m hi
        have h4 := cnOk_true.1 (hb.2.2.2.2.2 (x.n - 1) (by omega))
        rw [sk_I hv (by omega), h0.1] at h4
        rw [h4] at h3
        simp at h3
      omega
end Go.Proofs.YtlkdmpfifpkpaaaGreatDoor
namespace Go.Proofs.YtlkdmpfifpkpaaaGreatDoor
open Go.RowKit

/-- a row of moves of its own, told by its numbers and letters; or nil -/
def RowNL (w : World) (v : Value) (q : Nat) (M : Nat → Int) (L : Nat → ByteArray) (g : Option Nat) : Prop :=
  (∃ b c, g = some b ∧ v = .slice (some ⟨b, 0, none⟩) q c ∧ Own w b c q 2 94 (mvF M L)) ∨ (g = none ∧ q = 0 ∧ v = .slice none 0 0)
theorem RowNL.below {w w' : World} {v : Value} {q : Nat} {M : Nat → Int} {L : Nat → ByteArray} {g : Option Nat} (h : RowNL w v q M L g) (hb : Below w.heap.size w w') : RowNL w' v q M L g := by
  rcases h with ⟨b, c, e, e2, h⟩ | h
  · exact .inl ⟨b, c, e, e2, h.below hb h.lt⟩
  · exact .inr h
theorem RowNL.grown {w w' : World} {v : Value} {q : Nat} {M : Nat → Int} {L : Nat → ByteArray} {g row : Option Nat} (h : RowNL w v q M L g) (hb : w.grownBy w' row) (hne : ∀ b, g = some b → row ≠ some b) : RowNL w' v q M L g := by
  rcases h with ⟨b, c, e, e2, h⟩ | h
  · exact .inl ⟨b, c, e, e2, h.kept hb (fun q => hne b e q.symm)⟩
  · exact .inr h
theorem RowNL.reads {w : World} {v : Value} {q : Nat} {M : Nat → Int} {L : Nat → ByteArray} {g : Option Nat} (h : RowNL w v q M L g) : MLs w v q M L := by
  rcases h with ⟨b, c, e, e2, h⟩ | ⟨e, e2, e3⟩
  · exact .inl ⟨b, 0, c, e2, MvsC.of_own h⟩
  · exact .inr ⟨e2, _, _, e3⟩
theorem RowNL.shape {w : World} {v : Value} {q : Nat} {M : Nat → Int} {L : Nat → ByteArray} {g : Option Nat} (h : RowNL w v q M L g) : ∃ ao c, v = .slice ao q c := h.reads.shape
theorem RowMs.row {z : Nat} {w : World} {v : Value} {ys : List (Int × ByteArray)} {g : Option Nat} (h : RowMs z w v ys g) : RowNL w v ys.length (mvM ys) (mvS ys) g ∧ (∀ c, g = some c → z ≤ c ∧ c < w.heap.size) := by
  rcases h with ⟨b, c, rfl, e2, e3, h⟩ | ⟨rfl, rfl, e2⟩
  · exact ⟨.inl ⟨b, c, rfl, e2, h⟩, fun c e => by cases e; exact ⟨e3, h.lt⟩⟩
  · exact ⟨.inr ⟨rfl, rfl, e2⟩, fun c e => by cases e⟩
end Go.Proofs.YtlkdmpfifpkpaaaGreatDoor
namespace Go.Proofs.YtlkdmpfifpkpaaaGreatDoor
open Go.RowKit

set_option maxHeartbeats 1000000 in
theorem drawLNew_any (ao : Option Addr) (n c : Nat) (w : World) (hnc : n ≤ c) (hn : n ≤ 9223372036854775807) (hB : BSl w ao n) :
    Calls Tryz.prog 15 #[.slice ao n c] w fun e w' => ∃ a t : Nat, e = .returned (.tuple #[.int .i64 a, .int .i64 ((t : Int) - 1)]) ∧ a < 7 ∧ t < 8 ∧ Below w.heap.size w w' := by
  have HBS := Lib.hid hB
  clear hB
  go_enter Tryz.func15, Tryz.ntmps15
  go_wp2_with fail
  refine (open_any ao n c _ hn hnc HBS.out).mono ?_
  rintro e w1 ⟨R, rfl, hR, hr1, hb1⟩
  have HB1 := Lib.hid hb1
  have HR1 := Lib.hid hr1
  have hz1 : w.heap.size ≤ w1.heap.size := hb1.size
  clear hb1 hr1
  go_wp2_with fail
  refine (pickN_any R 0 7 _ (by omega) (by omega) HR1.out).mono ?_
  rintro e w2 ⟨a, rfl, ha, hr2, hg2⟩
  have HR2 := Lib.hid hr2
  have HB2 := Lib.hid (HB1.out.trans (below_of_grown hg2 (by omega) (by omega)))
  have hz2 : w1.heap.size ≤ w2.heap.size := hg2.size
  clear hr2 hg2
  go_wp2_with fail
  refine (pickN_any R (0 + 1) 8 _ (by omega) (by omega) HR2.out).mono ?_
  rintro e w3 ⟨t, rfl, ht, hr3, hg3⟩
  have HB3 := Lib.hid (HB2.out.trans (below_of_grown hg3 (by omega) (by omega)))
  clear hr3 hg3
  have hw : IntKind.i64.wrap ((t : Int) - 1) = (t : Int) - 1 := IntWalk.i64_in _ (by omega)
  go_wp2_with fail
  go_ret2
  exact ⟨a, t, rfl, ha, ht, HB3.out⟩

set_option linter.unusedSimpArgs false in
set_option maxHeartbeats 1000000 in
theorem sameLine_same (bb bo cb tb tu ct bb' bo' cb' tb' tu' ct' : Nat) (x : Ln) (w : World) (hn : x.n ≤ 1000000000000) (hm : x.m ≤ 1000000000000) (hbk : BkC w bb bo x.n x.N x.I x.O) (hic : IC w tb tu x.m x.T) (hbk' : BkC w bb' bo' x.n x.N x.I x.O) (hic' : IC w tb' tu' x.m x.T) :
    Calls Tryz.prog 18 #[.agg #[.slice (some ⟨bb, bo, none⟩) x.n cb, .slice (some ⟨tb, tu, none⟩) x.m ct], .agg #[.slice (some ⟨bb', bo', none⟩) x.n cb', .slice (some ⟨tb', tu', none⟩) x.m ct']] w fun e w' => e = .returned (.bool true) ∧ Below w.heap.size w w' := by
  have HB0 : Hid (Below w.heap.size w ((w.alloc (.cells #[.slice (some ⟨bb, bo, none⟩) x.n cb, .slice (some ⟨tb, tu, none⟩) x.m ct] 31)).alloc (.cells #[.slice (some ⟨bb', bo', none⟩) x.n cb', .slice (some ⟨tb', tu', none⟩) x.m ct'] 31))) := (below_all _ _).alloc (by simp) _
  have HA0 : Hid (Bx ((w.alloc (.cells #[.slice (some ⟨bb, bo, none⟩) x.n cb, .slice (some ⟨tb, tu, none⟩) x.m ct] 31)).alloc (.cells #[.slice (some ⟨bb', bo', none⟩) x.n cb', .slice (some ⟨tb', tu', none⟩) x.m ct'] 31)) w.heap.size 31 #[.slice (some ⟨bb, bo, none⟩) x.n cb, .slice (some ⟨tb, tu, none⟩) x.m ct]) := (Bx.new _ _ _).alloc _
  have HC0 : Hid (Bx ((w.alloc (.cells #[.slice (some ⟨bb, bo, none⟩) x.n cb, .slice (some ⟨tb, tu, none⟩) x.m ct] 31)).alloc (.cells #[.slice (some ⟨bb', bo', none⟩) x.n cb', .slice (some ⟨tb', tu', none⟩) x.m ct'] 31)) (w.heap.size + 1) 31 #[.slice (some ⟨bb', bo', none⟩) x.n cb', .slice (some ⟨tb', tu', none⟩) x.m ct']) := Bx.newAt (by simp)
  have HK : Hid (∀ w', Below w.heap.size w w' → BkC w' bb bo x.n x.N x.I x.O) := fun w' hb => hbk.keep hb
  have HK' : Hid (∀ w', Below w.heap.size w w' → BkC w' bb' bo' x.n x.N x.I x.O) := fun w' hb => hbk'.keep hb
  have HSI : Hid (∀ w', Below w.heap.size w w' → Calls Tryz.prog 44 #[.slice (some ⟨tb, tu, none⟩) x.m ct, .slice (some ⟨tb', tu', none⟩) x.m ct'] w' fun e w2 => e = .returned (.bool true) ∧ Below w'.heap.size w' w2) := fun w' hb =>
    (sameInts_any tb tu x.m ct tb' tu' x.m ct' x.T x.T w' (by omega) (by omega) (hic.keep hb) (hic'.keep hb)).mono fun e w2 ⟨h1, h2⟩ => ⟨by rw [h1, eqSl_true.2 ⟨rfl, fun _ _ => rfl⟩], below_dr h2 _⟩
  clear hbk hic hbk' hic'
  go_enter Tryz.func18, Tryz.ntmps18
  have hac := HA0.out.cell
  have hcc := HC0.out.cell
  go_wp2_with fail
  generalize (w.alloc (.cells #[.slice (some ⟨bb, bo, none⟩) x.n cb, .slice (some ⟨tb, tu, none⟩) x.m ct] 31)).alloc (.cells #[.slice (some ⟨bb', bo', none⟩) x.n cb', .slice (some ⟨tb', tu', none⟩) x.m ct'] 31) = W0 at *
  refine (HSI.out _ HB0.out).mono ?_
  rintro e w1 ⟨rfl, hb1⟩
  have HA1 := Lib.hid (HA0.out.below hb1 HA0.out.lt)
  have HC1 := Lib.hid (HC0.out.below hb1 HC0.out.lt)
  have HB1 := Lib.hid (HB0.out.trans (hb1.mono HB0.out.size))
  clear hb1 hac hcc
  have hac := HA1.out.cell
  have hcc := HC1.out.cell
  go_wp2_with fail
  clear hac hcc
  go_loopw [5] (fun i wr => ∃ k : Nat, k ≤ x.n ∧ i = .int .i64 k ∧ Hid (Below w1.heap.size w1 wr)) (fun i _ => x.n - (intOf i).toNat)
  case atStart => exact ⟨0, Nat.zero_le _, rfl, Below.refl _ _⟩
  case round =>
    obtain ⟨k, hk, rfl, HB⟩ := hrel
    have hac := (HA1.out.below HB.out HA1.out.lt).cell
    have hcc := (HC1.out.below HB.out HC1.out.lt).cell
    have HBw := Lib.hid (HB1.out.trans (HB.out.mono HB1.out.size))
    by_cases hlt : k < x.n
    · have hck := (HK.out _ HBw.out).at k hlt
      have hdk := (HK'.out _ HBw.out).at k hlt
      generalize x.N k = xn at *
      generalize x.I k = xi at *
      generalize x.O k = xo at *
      go_wp2_with fail
      refine wp_region_held_drew (S := (fun w' => (w'.cell? ⟨w.heap.size, 0, none⟩ = some (.slice (some ⟨bb, bo, none⟩) x.n cb) ∧ w'.cell? ⟨w.heap.size + 1, 0, none⟩ = some (.slice (some ⟨bb', bo', none⟩) x.n cb')) ∧ (w'.cell? ⟨bb, bo + k * 3, none⟩ = some (.int .i64 xn) ∧ w'.cell? ⟨bb, bo + k * 3 + 1, none⟩ = some (.bool xi) ∧ w'.cell? ⟨bb, bo + k * 3 + 2, none⟩ = some (.bool xo)) ∧ (w'.cell? ⟨bb', bo' + k * 3, none⟩ = some (.int .i64 xn) ∧ w'.cell? ⟨bb', bo' + k * 3 + 1, none⟩ = some (.bool xi) ∧ w'.cell? ⟨bb', bo' + k * 3 + 2, none⟩ = some (.bool xo)))) (by kernel_rfl) ?_ (fun hHeld => ?_)
      · try dsimp only
        go_keep
      refine wpAnyH_take (i := 0) (oi := ?_) (v := ?_) ?_ (by kernel_rfl) (by kernel_rfl) (by kernel_rfl) ?_ ?_ (by assumption) ?_
      rotate_left 2
      · simp only [List.getElem?_toArray, List.getElem?_cons_succ, List.getElem?_cons_zero]; rfl
      · exact fun _ _ _ h => h
      · first
          | (refine Or.inr ⟨?_, ?_⟩ <;> rfl)
          | (refine Or.inl ⟨?_, ?_⟩; · rfl
             intro w hSw; (try dsimp only at hSw); go_simp; (try with_reducible rfl); done)
      try simp only [Act.put, List.setIfInBounds_toArray, List.set_cons_zero, List.set_cons_succ]
      refine wpAnyH_take (i := 1) (oi := ?_) (v := ?_) ?_ (by kernel_rfl) (by kernel_rfl) (by kernel_rfl) ?_ ?_ (by assumption) ?_
      rotate_left 2
      · simp only [List.getElem?_toArray, List.getElem?_cons_succ, List.getElem?_cons_zero]; rfl
      · exact fun _ _ _ h => h
      · first
          | (refine Or.inr ⟨?_, ?_⟩ <;> rfl)
          | (refine Or.inl ⟨?_, ?_⟩; · rfl
             intro w hSw; (try dsimp only at hSw); go_simp; (try with_reducible rfl); done)
      try simp only [Act.put, List.setIfInBounds_toArray, List.set_cons_zero, List.set_cons_succ]
      refine wpAnyH_take (i := 2) (oi := ?_) (v := ?_) ?_ (by kernel_rfl) (by kernel_rfl) (by kernel_rfl) ?_ ?_ (by assumption) ?_
      rotate_left 2
      · simp only [List.getElem?_toArray, List.getElem?_cons_succ, List.getElem?_cons_zero]; rfl
      · exact fun _ _ _ h => h
      · first
          | (refine Or.inr ⟨?_, ?_⟩ <;> rfl)
          | (refine Or.inl ⟨?_, ?_⟩; · rfl
             intro w hSw; (try dsimp only at hSw); go_simp; (try with_reducible rfl); done)
      try simp only [Act.put, List.setIfInBounds_toArray, List.set_cons_zero, List.set_cons_succ]
      refine wpAnyH_take (i := 3) (oi := ?_) (v := ?_) ?_ (by kernel_rfl) (by kernel_rfl) (by kernel_rfl) ?_ ?_ (by assumption) ?_
      rotate_left 2
      · simp only [List.getElem?_toArray, List.getElem?_cons_succ, List.getElem?_cons_zero]; rfl
      · exact fun _ _ _ h => h
      · first
          | (refine Or.inr ⟨?_, ?_⟩ <;> rfl)
          | (refine Or.inl ⟨?_, ?_⟩; · rfl
             intro w hSw; (try dsimp only at hSw); go_simp; (try with_reducible rfl); done)
      try simp only [Act.put, List.setIfInBounds_toArray, List.set_cons_zero, List.set_cons_succ]
      refine wpAnyH_take (i := 4) (oi := ?_) (v := ?_) ?_ (by kernel_rfl) (by kernel_rfl) (by kernel_rfl) ?_ ?_ (by assumption) ?_
      rotate_left 2
      · simp only [List.getElem?_toArray, List.getElem?_cons_succ, List.getElem?_cons_zero]; rfl
      · exact fun _ _ _ h => h
      · first
          | (refine Or.inr ⟨?_, ?_⟩ <;> rfl)
          | (refine Or.inl ⟨?_, ?_⟩; · rfl
             intro w hSw; (try dsimp only at hSw); go_simp; (try with_reducible rfl); done)
      try simp only [Act.put, List.setIfInBounds_toArray, List.set_cons_zero, List.set_cons_succ]
      refine wpAnyH_take (i := 5) (oi := ?_) (v := ?_) ?_ (by kernel_rfl) (by kernel_rfl) (by kernel_rfl) ?_ ?_ (by assumption) ?_
      rotate_left 2
      · simp only [List.getElem?_toArray, List.getElem?_cons_succ, List.getElem?_cons_zero]; rfl
      · exact fun _ _ _ h => h
      · first
          | (refine Or.inr ⟨?_, ?_⟩ <;> rfl)
          | (refine Or.inl ⟨?_, ?_⟩; · rfl
             intro w hSw; (try dsimp only at hSw); go_simp; (try with_reducible rfl); done)
      try simp only [Act.put, List.setIfInBounds_toArray, List.set_cons_zero, List.set_cons_succ]
      refine wpAnyH_take (i := 6) (oi := ?_) (v := ?_) ?_ (by kernel_rfl) (by kernel_rfl) (by kernel_rfl) ?_ ?_ (by assumption) ?_
      rotate_left 2
      · simp only [List.getElem?_toArray, List.getElem?_cons_succ, List.getElem?_cons_zero]; rfl
      · exact fun _ _ _ h => h
      · first
          | (refine Or.inr ⟨?_, ?_⟩ <;> rfl)
          | (refine Or.inl ⟨?_, ?_⟩; · rfl
             intro w hSw; (try dsimp only at hSw); go_simp; (try with_reducible rfl); done)
      try simp only [Act.put, List.setIfInBounds_toArray, List.set_cons_zero, List.set_cons_succ]
      refine wpAnyH_take (i := 7) (oi := ?_) (v := ?_) ?_ (by kernel_rfl) (by kernel_rfl) (by kernel_rfl) ?_ ?_ (by assumption) ?_
      rotate_left 2
      · simp only [List.getElem?_toArray, List.getElem?_cons_succ, List.getElem?_cons_zero]; rfl
      · exact fun _ _ _ h => h
      · first
          | (refine Or.inr ⟨?_, ?_⟩ <;> rfl)
          | (refine Or.inl ⟨?_, ?_⟩; · rfl
             intro w hSw; (try dsimp only at hSw); go_simp; (try with_reducible rfl); done)
      try simp only [Act.put, List.setIfInBounds_toArray, List.set_cons_zero, List.set_cons_succ]
      refine wpAnyH_take (i := 8) (oi := ?_) (v := ?_) ?_ (by kernel_rfl) (by kernel_rfl) (by kernel_rfl) ?_ ?_ (by assumption) ?_
      rotate_left 2
      · simp only [List.getElem?_toArray, List.getElem?_cons_succ, List.getElem?_cons_zero]; rfl
      · exact fun _ _ _ h => h
      · first
          | (refine Or.inr ⟨?_, ?_⟩ <;> rfl)
          | (refine Or.inl ⟨?_, ?_⟩; · rfl
             intro w hSw; (try dsimp only at hSw); go_simp; (try with_reducible rfl); done)
      try simp only [Act.put, List.setIfInBounds_toArray, List.set_cons_zero, List.set_cons_succ]
      refine wpAnyH_take (i := 9) (oi := ?_) (v := ?_) ?_ (by kernel_rfl) (by kernel_rfl) (by kernel_rfl) ?_ ?_ (by assumption) ?_
      rotate_left 2
      · simp only [List.getElem?_toArray, List.getElem?_cons_succ, List.getElem?_cons_zero]; rfl
      · exact fun _ _ _ h => h
      · first
          | (refine Or.inr ⟨?_, ?_⟩ <;> rfl)
          | (refine Or.inl ⟨?_, ?_⟩; · rfl
             intro w hSw; (try dsimp only at hSw); go_simp; (try with_reducible rfl); done)
      try simp only [Act.put, List.setIfInBounds_toArray, List.set_cons_zero, List.set_cons_succ]
      refine wpAnyH_take (i := 10) (oi := ?_) (v := ?_) ?_ (by kernel_rfl) (by kernel_rfl) (by kernel_rfl) ?_ ?_ (by assumption) ?_
      rotate_left 2
      · simp only [List.getElem?_toArray, List.getElem?_cons_succ, List.getElem?_cons_zero]; rfl
      · exact fun _ _ _ h => h
      · first
          | (refine Or.inr ⟨?_, ?_⟩ <;> rfl)
          | (refine Or.inl ⟨?_, ?_⟩; · rfl
             intro w hSw; (try dsimp only at hSw); go_simp; (try with_reducible rfl); done)
      try simp only [Act.put, List.setIfInBounds_toArray, List.set_cons_zero, List.set_cons_succ]
      refine wpAnyH_done (by kernel_rfl) ?_ _
      go_wp2_with fail
      go_roundw
      case rel => exact ⟨k + 1, by omega, by go_num, HB.out.drew⟩
      case measure => simp [intOf]; omega
    · obtain rfl : k = x.n := by omega
      go_wp2_with fail
      go_ret
      exact ⟨rfl, HBw.out⟩
end Go.Proofs.YtlkdmpfifpkpaaaGreatDoor
namespace Go.Proofs.YtlkdmpfifpkpaaaGreatDoor
open Go.RowKit

/-- a line in a box, rows of its own -/
structure LbM (w wr : World) (b g1 c1 g2 c2 : Nat) (x : Ln) : Prop where
  box : Bx wr b 31 #[.slice (some ⟨g1, 0, none⟩) x.n c1, .slice (some ⟨g2, 0, none⟩) x.m c2]
  bs : Own wr g1 c1 x.n 3 76 (bkF x.N x.I x.O)
  ts : Own wr g2 c2 x.m 1 3 (fun i => .int .i64 (x.T i))
  bl : Below w.heap.size w wr
  hn : x.n ≤ 1000000
  hm : x.m ≤ 1000000
section
variable {w wr w' : World} {b g1 c1 g2 c2 : Nat} {x : Ln}
theorem LbM.below (h : LbM w wr b g1 c1 g2 c2 x) (hb : Below wr.heap.size wr w') : LbM w w' b g1 c1 g2 c2 x :=
  ⟨h.box.below hb h.box.lt, h.bs.below hb h.bs.lt, h.ts.below hb h.ts.lt, h.bl.trans (hb.mono h.bl.size), h.hn, h.hm⟩
theorem LbM.drew (h : LbM w wr b g1 c1 g2 c2 x) : LbM w wr.drew b g1 c1 g2 c2 x := h.below (Below.refl _ _).drew
theorem LbM.alloc (h : LbM w wr b g1 c1 g2 c2 x) (o : Obj) : LbM w (wr.alloc o) b g1 c1 g2 c2 x := h.below (below_all _ _)
theorem LbM.new {z : Nat} (hb : Below w.heap.size w wr) (h : LnO z wr (.agg #[.slice (some ⟨g1, 0, none⟩) x.n c1, .slice (some ⟨g2, 0, none⟩) x.m c2]) x) (hn : x.n ≤ 1000000) (hm : x.m ≤ 1000000) :
    LbM w (wr.alloc (.cells #[.slice (some ⟨g1, 0, none⟩) x.n c1, .slice (some ⟨g2, 0, none⟩) x.m c2] 31)) wr.heap.size g1 c1 g2 c2 x := by
  obtain ⟨_, _, _, _, e, h1, h2, _⟩ := h
  cases e
  exact ⟨Bx.new _ _ _, h1.alloc _, h2.alloc _, hb.alloc hb.size _, hn, hm⟩
/-- a line that was put into a box of its own -/
theorem LbM.put {z q : Nat} {V : World} (hl : LnO z V (.agg #[.slice (some ⟨g1, 0, none⟩) x.n c1, .slice (some ⟨g2, 0, none⟩) x.m c2]) x) (hx : Bx V q 31 #[.slice (some ⟨g1, 0, none⟩) x.n c1, .slice (some ⟨g2, 0, none⟩) x.m c2]) (hb : Below w.heap.size w V) (hn : x.n ≤ 1000000) (hm : x.m ≤ 1000000) :
    LbM w V q g1 c1 g2 c2 x := by
  obtain ⟨_, _, _, _, e, h1, h2, _⟩ := hl
  cases e
  exact ⟨hx, h1, h2, hb, hn, hm⟩
/-- moves handed back, by their reading -/
def MvV (w : World) (v : Value) (ms : List (Int × ByteArray)) : Prop := MLs w v ms.length (mvM ms) (mvS ms)
theorem MvV.keep {v : Value} {ms : List (Int × ByteArray)} (h : MvV w v ms) (hb : Below w.heap.size w w') : MvV w' v ms := MLs.keep h hb
theorem MvV.shape {v : Value} {ms : List (Int × ByteArray)} (h : MvV w v ms) : ∃ ao c, v = .slice ao ms.length c := MLs.shape h
theorem MvV.at {ao : Option Addr} {c i : Nat} {ms : List (Int × ByteArray)} (h : MvV w (.slice ao ms.length c) ms) (hi : i < ms.length) : ∃ bm mo, ao = some ⟨bm, mo, none⟩ ∧ w.cell? ⟨bm, mo + i * 2, none⟩ = some (.int .i64 (ms[i]).1) ∧ w.cell? ⟨bm, mo + i * 2 + 1, none⟩ = some (.string (ms[i]).2) := by
  rcases h with ⟨bm, mo, c', e, h⟩ | ⟨h0, _⟩
  · cases e
    obtain ⟨h1, h2⟩ := h i hi
    refine ⟨bm, mo, rfl, ?_, ?_⟩
    · rw [h1]; unfold mvM; rw [List.getElem?_eq_getElem hi]; rfl
    · rw [h2]; unfold mvS; rw [List.getElem?_eq_getElem hi]; rfl
  · omega
/-- moves handed back in a row -/
def MvA (w : World) (v : Value) (ms : List (Int × ByteArray)) : Prop := ∃ b o c, v = .slice (some ⟨b, o, none⟩) ms.length c ∧ ms.length ≤ c ∧ MvsC w b o ms.length (mvM ms) (mvS ms)
theorem MvA.keep {v : Value} {ms : List (Int × ByteArray)} (h : MvA w v ms) (hb : Below w.heap.size w w') : MvA w' v ms := by
  obtain ⟨b, o, c, e, hc, h⟩ := h
  exact ⟨b, o, c, e, hc, h.keep hb⟩
theorem LbM.step (h : LbM w wr b g1 c1 g2 c2 x) (s : Int) (l : ByteArray) : Calls Tryz.prog 121 #[.agg #[.slice (some ⟨g1, 0, none⟩) x.n c1, .slice (some ⟨g2, 0, none⟩) x.m c2], .agg #[.int .i64 s, .string l]] wr (LrR (stO x s l) wr) :=
  lineStep_any g1 0 c1 g2 0 c2 x s l wr (by have := h.hn; omega) (by have := h.hm; omega) (BkC.of_own h.bs) (IC.of_own h.ts)
end
theorem LrR.some {o : Option Ln} {y : Ln} {w w' : World} {e : Ending} (h : LrR o w e w') (ho : o = some y) : ∃ v, e = .returned (.tuple #[v, .bool true]) ∧ LnO w.heap.size w' v y ∧ Below w.heap.size w w' := by
  obtain ⟨hb, ⟨h1, _⟩ | ⟨y', v, h1, h2, h3⟩⟩ := h
  · rw [ho] at h1; cases h1
  · rw [ho] at h1; cases h1; exact ⟨v, h2, h3, hb⟩
end Go.Proofs.YtlkdmpfifpkpaaaGreatDoor
namespace Go.Proofs.YtlkdmpfifpkpaaaGreatDoor
open Go.RowKit

/-- the lines of a script, with what is behind the last newline -/
def lnT (t : ByteArray) : List ByteArray := Lib.splitB ⟨#[10]⟩ 0 (Lib.countB t ⟨#[10]⟩) t
def lnI (t : ByteArray) (i : Nat) : ByteArray := ((lnT t)[i]?).getD ⟨#[]⟩
theorem lnT_len (t : ByteArray) : (lnT t).length = Lib.countB t ⟨#[10]⟩ + 1 := Lib.splitB_all ⟨#[10]⟩ (by decide) 0 _ t rfl
theorem ln_cell (t : ByteArray) (w : World) {i : Nat} (h : i < (lnT t).length) : (w.alloc (.cells ((lnT t).map Value.string).toArray 9)).cell? ⟨w.heap.size, i, none⟩ = some (.string (lnI t i)) := by
  have hh : (w.alloc (.cells ((lnT t).map Value.string).toArray 9)).heap[w.heap.size]? = some (.cells ((lnT t).map Value.string).toArray 9 (0, 0)) := heap_alloc_new _ _
  simp only [World.cell?, hh]
  unfold lnI
  simp [h]
/-- the output of the first lines -/
def exO (out : Nat → ByteArray) : Nat → List UInt8
  | 0 => []
  | k + 1 => exO out k ++ ((out k).data.toList ++ [10])
theorem exO_len {out : Nat → ByteArray} (h : ∀ k, (out k).size ≤ 1000000) : ∀ k, (exO out k).length ≤ 1000001 * k
  | 0 => Nat.zero_le _
  | k + 1 => by
    have := exO_len h k
    have h2 : (out k).data.toList.length ≤ 1000000 := by have := h k; simpa using this
    simp only [exO, List.length_append, List.length_cons, List.length_nil]
    omega
/-- the last line of the output -/
def exT (a b : Nat) : ByteArray := ⟨#[116, 114, 97, 105, 110, 115, 32]⟩ ++ ⟨(Lib.decDigits a).toArray⟩ ++ ⟨#[32, 112, 97, 116, 104, 115, 32]⟩ ++ ⟨(Lib.decDigits b).toArray⟩ ++ ⟨#[10]⟩
/-- what Execute keeps besides the session -/
structure ExM (w wr : World) (t : ByteArray) (s ob bl : Nat) (own : Nat → Prop) (o : List UInt8) : Prop where
  sb : SbS (fun q => ¬ own q ∧ q ≠ bl) w.heap.size ob (Lib.byteCells o) wr
  ln : ∀ i, i < (lnT t).length → wr.cell? ⟨bl, i, none⟩ = some (.string (lnI t i))
  bo : ¬ own bl
  bz : bl < wr.heap.size
  zl : w.heap.size ≤ bl
  ow : own s
  oz : ∀ q, own q → w.heap.size ≤ q ∧ q < wr.heap.size
  bd : Below w.heap.size w wr
theorem dd_size {n : Nat} (h : n < 100) : (⟨(Lib.decDigits n).toArray⟩ : ByteArray).size ≤ 21 := by
  have q := Lib.itoa_length_le (n : Int) (by omega) (by omega)
  have e : Lib.itoa (n : Int) = Lib.decDigits n := by
    unfold Lib.itoa
    rw [if_neg (by omega), show ((n : Nat) : Int).toNat = n by omega]
  rw [e] at q
  show (Lib.decDigits n).toArray.size ≤ 21
  simpa using q
set_option maxRecDepth 100000 in
set_option maxHeartbeats 4000000 in
set_option linter.unusedSimpArgs false in
theorem execute_gen (t : ByteArray) (m : Int) (w : World) (hsz : t.size ≤ 500) (hm : w.cell? ⟨0, 0, none⟩ = some (.int .i64 m)) (St : Nat → (Nat → Prop) → World → Nat → Prop) (out : Nat → ByteArray) (tr pn : Nat)
    (hout : ∀ k, (out k).size ≤ 1000000) (htr : tr < 100) (hpn : pn < 100)
    (hinit : ∀ W s g1 c1 g2 c2, Below w.heap.size w W → w.heap.size ≤ g1 → w.heap.size ≤ g2 → g1 ≠ g2 → g1 < s → g2 < s → Bx W s 56 #[.slice (some ⟨g1, 0, none⟩) 1 c1, .slice (some ⟨g2, 0, none⟩) 0 c2, .slice none 0 0, .int .i64 0, .slice none 0 0, .slice none 0 0] →
      Own W g1 c1 1 3 76 (bkF (newL 1 0).N (newL 1 0).I (newL 1 0).O) → Own W g2 c2 0 1 3 (fun i => .int .i64 ((newL 1 0).T i)) → St 0 (fun q => q = s ∨ q = g1 ∨ q = g2) W s)
    (hkeep : ∀ k own W W' s, St k own W s → Fr (fun q => ¬ own q) W W' → St k own W' s)
    (hstep : ∀ k own W s, k + 1 < (lnT t).length → St k own W s → Below w.heap.size w W → (∀ q, own q → w.heap.size ≤ q ∧ q < W.heap.size) → Calls Tryz.prog 37 #[.pointer (some ⟨s, 0, none⟩), .string (lnI t k)] W fun e w' => e = .returned (.string (out k)) ∧ ∃ own', St (k + 1) own' w' s ∧ Fr own W w' ∧ own' s ∧ ∀ q, own' q → (own q ∨ W.heap.size ≤ q) ∧ q < w'.heap.size)
    (hend : ∀ own W s, St ((lnT t).length - 1) own W s → (∃ a c, W.cell? ⟨s, 1, none⟩ = some (.slice a tr c)) ∧ ∃ a c, W.cell? ⟨s, 2, none⟩ = some (.slice a pn c)) :
    Calls Tryz.prog 11 #[.string t] w fun e w' => e = .returned (.string ⟨(exO out ((lnT t).length - 1) ++ (exT tr pn).data.toList).toArray⟩) ∧ Below w.heap.size w w' := by
  have H00 : 0 < w.heap.size := World.block_lt_of_cell? w ⟨0, 0, none⟩ hm
  have HSP : Hid (∀ W, Below w.heap.size w W → Calls Tryz.prog 35 #[.string t, .string ⟨#[10]⟩] W fun e w' => e = .returned (.slice (some ⟨W.heap.size, 0, none⟩) (lnT t).length (lnT t).length) ∧ w' = W.alloc (.cells ((lnT t).map Value.string).toArray 9)) := fun W h => by
    have q := Tryz.strings_Split t ⟨#[10]⟩ m W (by omega) (by rw [h.cell (p := ⟨0, 0, none⟩) H00]; exact hm) (by decide)
    rw [← lnT_len] at q
    exact q
  have HIN := Lib.hid hinit
  have HKE := Lib.hid hkeep
  have HST := Lib.hid hstep
  have HEN := Lib.hid hend
  have HLN := Lib.hid (lineNew_any 1 0 w (by omega))
  have HNW : Hid (nwO 1 0 = some (newL 1 0)) := rfl
  clear hinit hkeep hstep hend
  go_enter Tryz.func11, Tryz.ntmps11
  go_wp2_with fail
  refine HLN.out.mono ?_
  rintro e w1 h1
  obtain ⟨v, rfl, hl1, hb1⟩ := h1.some HNW.out
  have HL1 := Lib.hid hl1
  have HB1 := Lib.hid hb1
  obtain ⟨g1, c1, g2, c2, rfl, _⟩ := hl1
  clear hb1 h1
  have HS2 : Hid (Bx (((w1.alloc (.cells #[.slice (some ⟨g1, 0, none⟩) (newL 1 0).n c1, .slice (some ⟨g2, 0, none⟩) (newL 1 0).m c2] 31)).alloc (.cells #[.slice (some ⟨g1, 0, none⟩) (newL 1 0).n c1, .slice (some ⟨g2, 0, none⟩) (newL 1 0).m c2, .slice none 0 0, .int .i64 0, .slice none 0 0, .slice none 0 0] 56)).alloc (.cells #[.pointer none, .slice none 0 0] 59)) (w1.heap.size + 1) 56 #[.slice (some ⟨g1, 0, none⟩) (newL 1 0).n c1, .slice (some ⟨g2, 0, none⟩) (newL 1 0).m c2, .slice none 0 0, .int .i64 0, .slice none 0 0, .slice none 0 0]) := (Bx.newAt (by simp)).alloc _
  have HO2 : Hid (Bx (((w1.alloc (.cells #[.slice (some ⟨g1, 0, none⟩) (newL 1 0).n c1, .slice (some ⟨g2, 0, none⟩) (newL 1 0).m c2] 31)).alloc (.cells #[.slice (some ⟨g1, 0, none⟩) (newL 1 0).n c1, .slice (some ⟨g2, 0, none⟩) (newL 1 0).m c2, .slice none 0 0, .int .i64 0, .slice none 0 0, .slice none 0 0] 56)).alloc (.cells #[.pointer none, .slice none 0 0] 59)) (w1.heap.size + 1 + 1) 59 #[.pointer none, .slice none 0 0]) := Bx.newAt (by simp)
  have HBW : Hid (Below w1.heap.size w1 (((w1.alloc (.cells #[.slice (some ⟨g1, 0, none⟩) (newL 1 0).n c1, .slice (some ⟨g2, 0, none⟩) (newL 1 0).m c2] 31)).alloc (.cells #[.slice (some ⟨g1, 0, none⟩) (newL 1 0).n c1, .slice (some ⟨g2, 0, none⟩) (newL 1 0).m c2, .slice none 0 0, .int .i64 0, .slice none 0 0, .slice none 0 0] 56)).alloc (.cells #[.pointer none, .slice none 0 0] 59))) := ((below_all _ _).alloc (by simp) _).alloc (by simp; omega) _
  go_wp2_with fail
  generalize ((w1.alloc (.cells #[.slice (some ⟨g1, 0, none⟩) (newL 1 0).n c1, .slice (some ⟨g2, 0, none⟩) (newL 1 0).m c2] 31)).alloc (.cells #[.slice (some ⟨g1, 0, none⟩) (newL 1 0).n c1, .slice (some ⟨g2, 0, none⟩) (newL 1 0).m c2, .slice none 0 0, .int .i64 0, .slice none 0 0, .slice none 0 0] 56)).alloc (.cells #[.pointer none, .slice none 0 0] 59) = W2 at *
  have HB2 := Lib.hid (HB1.out.trans (HBW.out.mono HB1.out.size))
  refine (HSP.out _ HB2.out).mono ?_
  rintro e W3 ⟨rfl, rfl⟩
  have hzw := HB1.out.size
  have hzs := HS2.out.lt
  have hzo := HO2.out.lt
  have HM : Hid (∃ own, St 0 own (W2.alloc (.cells ((lnT t).map Value.string).toArray 9)) (w1.heap.size + 1) ∧ ExM w (W2.alloc (.cells ((lnT t).map Value.string).toArray 9)) t (w1.heap.size + 1) (w1.heap.size + 1 + 1) W2.heap.size own []) := by
    obtain ⟨_, _, _, _, e, hl2, hl3, hgne, hg1, hg2⟩ := HL1.out
    cases e
    have hg1l := hl2.lt
    have hg2l := hl3.lt
    have hst := HIN.out W2 (w1.heap.size + 1) g1 c1 g2 c2 HB2.out hg1 hg2 hgne (by omega) (by omega) HS2.out (hl2.below HBW.out hl2.lt) (hl3.below HBW.out hl3.lt)
    have ha := below_all W2 (.cells ((lnT t).map Value.string).toArray 9)
    refine ⟨_, HKE.out _ _ _ _ _ hst (Fr.of_below ha _), ?_, fun i hi => ln_cell t W2 hi, by omega, by simp, by omega, .inl rfl, fun q hq => ?_, HB2.out.trans (ha.mono HB2.out.size)⟩
    · have hx : Bx (W2.alloc (.cells ((lnT t).map Value.string).toArray 9)) (w1.heap.size + 1 + 1) 59 #[.pointer none, .slice none 0 0] := HO2.out.alloc _
      exact ⟨_, .inl rfl, by omega, by omega, _, hx, ⟨rfl, .inl ⟨rfl, rfl⟩⟩, by simp [Value.ownBlock], fun q hq => by simp [Value.ownBlock] at hq⟩
    · have : (W2.alloc (.cells ((lnT t).map Value.string).toArray 9)).heap.size = W2.heap.size + 1 := by simp
      omega
  clear HS2 HO2 HBW HB1 HL1 HLN HNW HB2 HIN HSP
  generalize W2.alloc (.cells ((lnT t).map Value.string).toArray 9) = W3 at *
  have hlen := lnT_len t
  have hl1 : 1 ≤ (lnT t).length := by omega
  have hl5 : (lnT t).length ≤ 501 := by have := Lib.countB_le ⟨#[10]⟩ (by decide) t.size t (Nat.le_refl _); omega
  clear hlen
  have hv1 : IntKind.i64.wrap (((lnT t).length : Int) - 1) = ((lnT t).length : Int) - 1 := IntWalk.i64_in _ (by omega)
  have hv2 : (((lnT t).length : Int) - 1).toNat = (lnT t).length - 1 := by omega
  have hv3 : (0 : Int) ≤ ((lnT t).length : Int) - 1 := by omega
  have hv4 : ((lnT t).length : Int) - 1 ≤ ((lnT t).length : Int) := by omega
  have hv5 : (1 : Int) ≤ ((lnT t).length : Int) := by omega
  have HZ3 : Hid (w1.heap.size + 1 + 1 < W2.heap.size) := hzo
  generalize w1.heap.size + 1 + 1 = ob at *
  generalize w1.heap.size + 1 = sb at *
  generalize W2.heap.size = bl at *
  go_wp2_with fail
  go_loopw [9, 28] (fun _ i wr => ∃ k : Nat, k ≤ (lnT t).length - 1 ∧ i = .int .i64 k ∧ Hid (∃ own, St k own wr sb ∧ ExM w wr t sb ob bl own (exO out k))) (fun _ i _ => (lnT t).length - 1 - (intOf i).toNat)
  case atStart => exact ⟨0, Nat.zero_le _, rfl, HM⟩
  case round =>
    obtain ⟨k, hk, rfl, HI⟩ := hrel
    obtain ⟨own, hst, hex⟩ := HI.out
    have HS := Lib.hid hst
    have HE := Lib.hid hex
    clear hst hex HI
    by_cases hlt : k < (lnT t).length - 1
    · have hcc := HE.out.ln k (by omega)
      have hki : (k : Int) < ((lnT t).length : Int) - 1 := by omega
      have hkn : k < (lnT t).length := by omega
      have HAN := Lib.hid (HST.out k own wr sb (by omega) HS.out HE.out.bd HE.out.oz)
      have hos := hout k
      have hss1 : ¬ 9223372036854775807 < (out k).size + 1 := by omega
      go_wp2_with fail
      refine HAN.out.mono ?_
      rintro e w4 ⟨rfl, own', hst, hf, hos', hoq⟩
      have HS4 := Lib.hid hst
      have HF4 := Lib.hid hf
      have HOS := Lib.hid hos'
      have HOQ := Lib.hid hoq
      have hz4 := hf.size
      have HB4 : Hid (Below w.heap.size w w4) := HE.out.bd.trans (hf.below (fun q hq => (HE.out.oz q hq).1) HE.out.bd.size)
      have hsb : SbS (fun q => ¬ own' q ∧ q ≠ bl) w.heap.size ob (Lib.byteCells (exO out k)) w4 := by
        have q1 : SbS (fun q => ¬ own q ∧ q ≠ bl ∧ q < wr.heap.size) w.heap.size ob (Lib.byteCells (exO out k)) wr := HE.out.sb.imp (fun q hq h => ⟨h.1, h.2, hq⟩)
        exact (q1.fr hf (fun q h => h.1)).imp (fun q _ h => ⟨fun ho => by rcases (hoq q ho).1 with h2 | h2
                                                                          · exact h.1 h2
                                                                          · omega, h.2.1⟩)
      have HSB := Lib.hid hsb
      have hln := exO_len hout k
      clear hst hf hos' hoq HAN hsb
      have HWS := Lib.hid (writeStringF_any (fun q => ¬ own' q ∧ q ≠ bl) w.heap.size ob (Lib.byteCells (exO out k)) (out k ++ ⟨#[10]⟩) w4 HSB.out (by simp only [Lib.byteCells_length, ByteArray.size_append]; have : (⟨#[10]⟩ : ByteArray).size = 1 := rfl; omega) HB4.out.size)
      go_wp2_with fail
      refine HWS.out.mono ?_
      rintro e w5 ⟨rfl, hsb, hb5, hf5⟩
      have HN : Hid (∃ own, St (k + 1) own w5 sb ∧ ExM w w5 t sb ob bl own (exO out (k + 1))) := by
        have hz5 := hf5.size
        refine ⟨own', HKE.out _ _ _ _ _ HS4.out (hf5.mono (fun q _ h => h.1)), ?_, fun i hi => ?_, fun ho => ?_, ?_, HE.out.zl, HOS.out, fun q hq => ?_, HB4.out.trans hb5⟩
        · have e1 : Lib.byteCells (exO out (k + 1)) = Lib.byteCells (exO out k) ++ Lib.strCells (out k ++ ⟨#[10]⟩) := by
            simp only [exO]
            rw [Lib.byteCells_append, Lib.strCells_eq, ByteArray.data_append, Array.toList_append]
          rw [e1]
          refine hsb.imp (fun q hq h => ?_)
          rcases h with h | h
          · exact h
          · refine ⟨fun ho => by have := (HOQ.out q ho).2; omega, ?_⟩
            have := HE.out.bz
            omega
        · have h1 := HE.out.ln i hi
          have h2 : w4.heap[bl]? = wr.heap[bl]? := HF4.out.block bl HE.out.bz HE.out.bo
          have h3 : w5.heap[bl]? = w4.heap[bl]? := hf5.block bl (by have := HE.out.bz; omega) (fun h => h.2 rfl)
          rw [World.cell?_of_block (a := ⟨bl, i, none⟩) h3, World.cell?_of_block (a := ⟨bl, i, none⟩) h2]
          exact h1
        · rcases (HOQ.out bl ho).1 with h2 | h2
          · exact HE.out.bo h2
          · have := HE.out.bz; omega
        · have := HE.out.bz; omega
        · have h2 := HOQ.out q hq
          refine ⟨?_, by omega⟩
          rcases h2.1 with h3 | h3
          · exact (HE.out.oz q h3).1
          · have := HE.out.bd.size; omega
      clear hsb hb5 hf5 HWS hcc
      go_wp2_with fail
      go_roundw
      case rel => exact ⟨k + 1, by omega, by go_num, HN.out⟩
      case measure => simp [intOf]; omega
    · obtain rfl : k = (lnT t).length - 1 := by omega
      obtain ⟨⟨a1, n1, hp1⟩, ⟨a2, n2, hp2⟩⟩ := HEN.out own wr sb HS.out
      have hsl : sb < wr.heap.size := (HE.out.oz sb HE.out.ow).2
      have HCC : Hid (∀ W, Fr (fun q => ¬ own q) wr W → W.cell? ⟨sb, 1, none⟩ = some (.slice a1 tr n1) ∧ W.cell? ⟨sb, 2, none⟩ = some (.slice a2 pn n2)) := fun W h => by
        have hb : W.heap[sb]? = wr.heap[sb]? := h.block sb hsl (fun q => q HE.out.ow)
        rw [World.cell?_of_block (a := ⟨sb, 1, none⟩) hb, World.cell?_of_block (a := ⟨sb, 2, none⟩) hb]
        exact ⟨hp1, hp2⟩
      clear hp1 hp2
      have hln := exO_len hout ((lnT t).length - 1)
      have hd1 : (⟨(Lib.decDigits tr).toArray⟩ : ByteArray).size ≤ 21 := dd_size htr
      have hd2 : (⟨(Lib.decDigits pn).toArray⟩ : ByteArray).size ≤ 21 := dd_size hpn
      have HET : Hid (exT tr pn = ⟨#[116, 114, 97, 105, 110, 115, 32]⟩ ++ ⟨(Lib.decDigits tr).toArray⟩ ++ ⟨#[32, 112, 97, 116, 104, 115, 32]⟩ ++ ⟨(Lib.decDigits pn).toArray⟩ ++ ⟨#[10]⟩) := rfl
      have HIT : Hid (∀ W, Calls Tryz.prog 38 #[.int .i64 tr] W fun e w' => e = .returned (.string ⟨(Lib.decDigits tr).toArray⟩) ∧ w' = W) := fun W => Tryz.strconv_Itoa_small tr htr W
      have HIP : Hid (∀ W, Calls Tryz.prog 38 #[.int .i64 pn] W fun e w' => e = .returned (.string ⟨(Lib.decDigits pn).toArray⟩) ∧ w' = W) := fun W => Tryz.strconv_Itoa_small pn hpn W
      have HWD : Hid (Fr (fun q => ¬ own q) wr wr.drew) := Fr.of_below (Below.refl _ _).drew _
      have HSB : Hid (SbS (fun q => ¬ own q ∧ q ≠ bl) w.heap.size ob (Lib.byteCells (exO out ((lnT t).length - 1))) wr.drew) := HE.out.sb.fr (Fr.of_below (Below.refl _ _).drew (fun _ => False)) (fun _ _ h => h)
      generalize (⟨(Lib.decDigits tr).toArray⟩ : ByteArray) = dt at *
      generalize (⟨(Lib.decDigits pn).toArray⟩ : ByteArray) = dp at *
      have hs1 : ¬ 9223372036854775807 < 7 + dt.size := by omega
      have hs2 : ¬ 9223372036854775807 < 7 + dt.size + 7 := by omega
      have hs3 : ¬ 9223372036854775807 < 7 + dt.size + 7 + dp.size := by omega
      have hs4 : ¬ 9223372036854775807 < 7 + dt.size + 7 + dp.size + 1 := by omega
      go_wp2_with fail
      refine wp_region_held_drew (S := fun W => W.cell? ⟨sb, 1, none⟩ = some (.slice a1 tr n1) ∧ W.cell? ⟨sb, 2, none⟩ = some (.slice a2 pn n2)) (by kernel_rfl) (HCC.out _ HWD.out) (fun hHeld => ?_)
      refine wpAnyH_take (i := 0) (oi := ?_) (v := ?_) ?_ (by kernel_rfl) (by kernel_rfl) (by kernel_rfl) ?_ ?_ (by assumption) ?_
      rotate_left 2
      · simp only [List.getElem?_toArray, List.getElem?_cons_succ, List.getElem?_cons_zero]; rfl
      · exact fun _ _ _ h => h
      · first
          | (refine Or.inr ⟨?_, ?_⟩ <;> rfl)
          | (refine Or.inl ⟨?_, ?_⟩; · rfl
             intro w hSw; (try dsimp only at hSw); go_simp; (try with_reducible rfl); done)
      try simp only [Act.put, List.setIfInBounds_toArray, List.set_cons_zero, List.set_cons_succ]
      refine wpAnyH_take (i := 1) (oi := ?_) (v := ?_) ?_ (by kernel_rfl) (by kernel_rfl) (by kernel_rfl) ?_ ?_ (by assumption) ?_
      rotate_left 2
      · simp only [List.getElem?_toArray, List.getElem?_cons_succ, List.getElem?_cons_zero]; rfl
      · exact fun _ _ _ h => h
      · first
          | (refine Or.inr ⟨?_, ?_⟩ <;> rfl)
          | (refine Or.inl ⟨?_, ?_⟩; · rfl
             intro w hSw; (try dsimp only at hSw); go_simp; (try with_reducible rfl); done)
      try simp only [Act.put, List.setIfInBounds_toArray, List.set_cons_zero, List.set_cons_succ]
      refine wpAnyH_take (i := 2) (oi := ?_) (v := ?_) ?_ (by kernel_rfl) (by kernel_rfl) (by kernel_rfl) ?_ ?_ (by assumption) ?_
      rotate_left 2
      · simp only [List.getElem?_toArray, List.getElem?_cons_succ, List.getElem?_cons_zero]; rfl
      · exact fun _ _ _ h => h
      · first
          | (refine Or.inr ⟨?_, ?_⟩ <;> rfl)
          | (refine Or.inl ⟨?_, ?_⟩; · rfl
             intro w hSw; (try dsimp only at hSw); go_simp; (try with_reducible rfl); done)
      try simp only [Act.put, List.setIfInBounds_toArray, List.set_cons_zero, List.set_cons_succ]
      refine wpAnyH_take (i := 3) (oi := ?_) (v := ?_) ?_ (by kernel_rfl) (by kernel_rfl) (by kernel_rfl) ?_ ?_ (by assumption) ?_
      rotate_left 2
      · simp only [List.getElem?_toArray, List.getElem?_cons_succ, List.getElem?_cons_zero]; rfl
      · exact fun _ _ _ h => h
      · first
          | (refine Or.inr ⟨?_, ?_⟩ <;> rfl)
          | (refine Or.inl ⟨?_, ?_⟩; · rfl
             intro w hSw; (try dsimp only at hSw); go_simp; (try with_reducible rfl); done)
      try simp only [Act.put, List.setIfInBounds_toArray, List.set_cons_zero, List.set_cons_succ]
      refine wpAnyH_take (i := 4) (oi := ?_) (v := ?_) ?_ (by kernel_rfl) (by kernel_rfl) (by kernel_rfl) ?_ ?_ (by assumption) ?_
      rotate_left 2
      · simp only [List.getElem?_toArray, List.getElem?_cons_succ, List.getElem?_cons_zero]; rfl
      · exact fun _ _ _ h => h
      · first
          | (refine Or.inr ⟨?_, ?_⟩ <;> rfl)
          | (refine Or.inl ⟨?_, ?_⟩; · rfl
             intro w hSw; (try dsimp only at hSw); go_simp; (try with_reducible rfl); done)
      try simp only [Act.put, List.setIfInBounds_toArray, List.set_cons_zero, List.set_cons_succ]
      refine wpAnyH_take (i := 5) (oi := ?_) (v := ?_) ?_ (by kernel_rfl) (by kernel_rfl) (by kernel_rfl) ?_ ?_ (by assumption) ?_
      rotate_left 2
      · simp only [List.getElem?_toArray, List.getElem?_cons_succ, List.getElem?_cons_zero]; rfl
      · exact fun _ _ _ h => h
      · first
          | (refine Or.inr ⟨?_, ?_⟩ <;> rfl)
          | (refine Or.inl ⟨?_, ?_⟩; · rfl
             intro w hSw; (try dsimp only at hSw); go_simp; (try with_reducible rfl); done)
      try simp only [Act.put, List.setIfInBounds_toArray, List.set_cons_zero, List.set_cons_succ]
      refine wpAnyH_take (i := 9) (oi := ?_) (v := ?_) ?_ (by kernel_rfl) (by kernel_rfl) (by kernel_rfl) ?_ ?_ (by assumption) ?_
      rotate_left 2
      · simp only [List.getElem?_toArray, List.getElem?_cons_succ, List.getElem?_cons_zero]; rfl
      · exact fun _ _ _ h => h
      · first
          | (refine Or.inr ⟨?_, ?_⟩ <;> rfl)
          | (refine Or.inl ⟨?_, ?_⟩; · rfl
             intro w hSw; (try dsimp only at hSw); go_simp; (try with_reducible rfl); done)
      try simp only [Act.put, List.setIfInBounds_toArray, List.set_cons_zero, List.set_cons_succ]
      refine wpAnyH_take (i := 10) (oi := ?_) (v := ?_) ?_ (by kernel_rfl) (by kernel_rfl) (by kernel_rfl) ?_ ?_ (by assumption) ?_
      rotate_left 2
      · simp only [List.getElem?_toArray, List.getElem?_cons_succ, List.getElem?_cons_zero]; rfl
      · exact fun _ _ _ h => h
      · first
          | (refine Or.inr ⟨?_, ?_⟩ <;> rfl)
          | (refine Or.inl ⟨?_, ?_⟩; · rfl
             intro w hSw; (try dsimp only at hSw); go_simp; (try with_reducible rfl); done)
      try simp only [Act.put, List.setIfInBounds_toArray, List.set_cons_zero, List.set_cons_succ]
      refine wpAnyH_take (i := 11) (oi := ?_) (v := ?_) ?_ (by kernel_rfl) (by kernel_rfl) (by kernel_rfl) ?_ ?_ (by assumption) ?_
      rotate_left 2
      · simp only [List.getElem?_toArray, List.getElem?_cons_succ, List.getElem?_cons_zero]; rfl
      · exact fun _ _ _ h => h
      · first
          | (refine Or.inr ⟨?_, ?_⟩ <;> rfl)
          | (refine Or.inl ⟨?_, ?_⟩; · rfl
             intro w hSw; (try dsimp only at hSw); go_simp; (try with_reducible rfl); done)
      try simp only [Act.put, List.setIfInBounds_toArray, List.set_cons_zero, List.set_cons_succ]
      refine wpAnyH_take (i := 12) (oi := ?_) (v := ?_) ?_ (by kernel_rfl) (by kernel_rfl) (by kernel_rfl) ?_ ?_ (by assumption) ?_
      rotate_left 2
      · simp only [List.getElem?_toArray, List.getElem?_cons_succ, List.getElem?_cons_zero]; rfl
      · exact fun _ _ _ h => h
      · first
          | (refine Or.inr ⟨?_, ?_⟩ <;> rfl)
          | (refine Or.inl ⟨?_, ?_⟩; · rfl
             intro w hSw; (try dsimp only at hSw); go_simp; (try with_reducible rfl); done)
      try simp only [Act.put, List.setIfInBounds_toArray, List.set_cons_zero, List.set_cons_succ]
      refine wpAnyH_take (i := 13) (oi := ?_) (v := ?_) ?_ (by kernel_rfl) (by kernel_rfl) (by kernel_rfl) ?_ ?_ (by assumption) ?_
      rotate_left 2
      · simp only [List.getElem?_toArray, List.getElem?_cons_succ, List.getElem?_cons_zero]; rfl
      · exact fun _ _ _ h => h
      · first
          | (refine Or.inr ⟨?_, ?_⟩ <;> rfl)
          | (refine Or.inl ⟨?_, ?_⟩; · rfl
             intro w hSw; (try dsimp only at hSw); go_simp; (try with_reducible rfl); done)
      try simp only [Act.put, List.setIfInBounds_toArray, List.set_cons_zero, List.set_cons_succ]
      refine wpAnyH_ready (rs := [6]) (by kernel_rfl) (by simp) ?_
      refine AllReadyH.cons (o := ?_) ?_ (fun K hK => ?_) AllReadyH.nil
      rotate_left 1
      · simp only [List.getElem?_toArray, List.getElem?_cons_succ, List.getElem?_cons_zero]; rfl
      go_simp
      go_at_call 38
      go_must (refine Calls.mono (HIT.out _) ?_)
      rintro e w' ⟨rfl, rfl⟩
      refine hK.out _ _ ?_ (fun hHeld => ?_)
      · try dsimp only
        exact HCC.out _ HWD.out
      clear hK K
      try simp only [Act.put, List.setIfInBounds_toArray, List.set_cons_zero, List.set_cons_succ]
      refine wpAnyH_take (i := 7) (oi := ?_) (v := ?_) ?_ (by kernel_rfl) (by kernel_rfl) (by kernel_rfl) ?_ ?_ (by assumption) ?_
      rotate_left 2
      · simp only [List.getElem?_toArray, List.getElem?_cons_succ, List.getElem?_cons_zero]; rfl
      · exact fun _ _ _ h => h
      · first
          | (refine Or.inr ⟨?_, ?_⟩ <;> rfl)
          | (refine Or.inl ⟨?_, ?_⟩; · rfl
             intro w hSw; (try dsimp only at hSw); go_simp; (try with_reducible rfl); done)
      try simp only [Act.put, List.setIfInBounds_toArray, List.set_cons_zero, List.set_cons_succ]
      refine wpAnyH_take (i := 8) (oi := ?_) (v := ?_) ?_ (by kernel_rfl) (by kernel_rfl) (by kernel_rfl) ?_ ?_ (by assumption) ?_
      rotate_left 2
      · simp only [List.getElem?_toArray, List.getElem?_cons_succ, List.getElem?_cons_zero]; rfl
      · exact fun _ _ _ h => h
      · first
          | (refine Or.inr ⟨?_, ?_⟩ <;> rfl)
          | (refine Or.inl ⟨?_, ?_⟩; · rfl
             intro w hSw; (try dsimp only at hSw); go_simp; (try with_reducible rfl); done)
      try simp only [Act.put, List.setIfInBounds_toArray, List.set_cons_zero, List.set_cons_succ]
      refine wpAnyH_ready (rs := [14]) (by kernel_rfl) (by simp) ?_
      refine AllReadyH.cons (o := ?_) ?_ (fun K hK => ?_) AllReadyH.nil
      rotate_left 1
      · simp only [List.getElem?_toArray, List.getElem?_cons_succ, List.getElem?_cons_zero]; rfl
      go_simp
      go_at_call 38
      go_must (refine Calls.mono (HIP.out _) ?_)
      rintro e w' ⟨rfl, rfl⟩
      refine hK.out _ _ ?_ (fun hHeld => ?_)
      · try dsimp only
        exact HCC.out _ HWD.out
      clear hK K
      try simp only [Act.put, List.setIfInBounds_toArray, List.set_cons_zero, List.set_cons_succ]
      refine wpAnyH_take (i := 15) (oi := ?_) (v := ?_) ?_ (by kernel_rfl) (by kernel_rfl) (by kernel_rfl) ?_ ?_ (by assumption) ?_
      rotate_left 2
      · simp only [List.getElem?_toArray, List.getElem?_cons_succ, List.getElem?_cons_zero]; rfl
      · exact fun _ _ _ h => h
      · first
          | (refine Or.inr ⟨?_, ?_⟩ <;> rfl)
          | (refine Or.inl ⟨?_, ?_⟩; · rfl
             intro w hSw; (try dsimp only at hSw); go_simp; (try with_reducible rfl); done)
      try simp only [Act.put, List.setIfInBounds_toArray, List.set_cons_zero, List.set_cons_succ]
      refine wpAnyH_take (i := 16) (oi := ?_) (v := ?_) ?_ (by kernel_rfl) (by kernel_rfl) (by kernel_rfl) ?_ ?_ (by assumption) ?_
      rotate_left 2
      · simp only [List.getElem?_toArray, List.getElem?_cons_succ, List.getElem?_cons_zero]; rfl
      · exact fun _ _ _ h => h
      · first
          | (refine Or.inr ⟨?_, ?_⟩ <;> rfl)
          | (refine Or.inl ⟨?_, ?_⟩; · rfl
             intro w hSw; (try dsimp only at hSw); go_simp; (try with_reducible rfl); done)
      try simp only [Act.put, List.setIfInBounds_toArray, List.set_cons_zero, List.set_cons_succ]
      rw [← HET.out]
      have hez : (exT tr pn).size ≤ 100 := by rw [HET.out]; simp only [ByteArray.size_append]; have e1 : (⟨#[116, 114, 97, 105, 110, 115, 32]⟩ : ByteArray).size = 7 := rfl; have e2 : (⟨#[32, 112, 97, 116, 104, 115, 32]⟩ : ByteArray).size = 7 := rfl; have e3 : (⟨#[10]⟩ : ByteArray).size = 1 := rfl; omega
      have HWS := Lib.hid (writeStringF_any (fun q => ¬ own q ∧ q ≠ bl) w.heap.size ob (Lib.byteCells (exO out ((lnT t).length - 1))) (exT tr pn) wr.drew HSB.out (by simp only [Lib.byteCells_length]; omega) HE.out.bd.drew.size)
      clear hs1 hs2 hs3 hs4
      refine wpAnyH_ready (rs := [17]) (by kernel_rfl) (by simp) ?_
      refine AllReadyH.cons (o := ?_) ?_ (fun K hK => ?_) AllReadyH.nil
      rotate_left 1
      · simp only [List.getElem?_toArray, List.getElem?_cons_succ, List.getElem?_cons_zero]; rfl
      go_simp
      go_at_call 36
      go_must (refine Calls.mono HWS.out ?_)
      rintro e w6 ⟨rfl, hsb, hb6, hf6⟩
      have HF6 := Lib.hid (HWD.out.trans (hf6.mono (fun q _ h => h.1)))
      have HS6 := Lib.hid hsb.sb
      have HB6 := Lib.hid (HE.out.bd.drew.trans hb6)
      clear hsb hb6 hf6
      refine hK.out _ _ ?_ (fun hHeld => ?_)
      · try dsimp only
        exact HCC.out _ HF6.out
      clear hK K
      try simp only [Act.put, List.setIfInBounds_toArray, List.set_cons_zero, List.set_cons_succ]
      refine wpAnyH_done (by kernel_rfl) ?_ _
      have hbc : Lib.byteCells (exO out ((lnT t).length - 1)) ++ Lib.strCells (exT tr pn) = Lib.byteCells (exO out ((lnT t).length - 1) ++ (exT tr pn).data.toList) := by rw [Lib.byteCells_append, Lib.strCells_eq]
      rw [hbc] at HS6
      clear hbc
      go_wp2_with fail
      refine (string_any w.heap.size ob _ _ HS6.out HB6.out.size).mono ?_
      rintro e w7 ⟨rfl, hb7⟩
      have HB7 := Lib.hid (HB6.out.trans hb7)
      clear hb7
      go_wp2_with fail
      go_ret
      exact ⟨rfl, HB7.out⟩
end Go.Proofs.YtlkdmpfifpkpaaaGreatDoor
