/-
  The program's LineStep, LineLeft, LineDone, LineWaits.
  The reference's LineStep, l4Done, LineDone, and LineLeft of a line that is not valid.
  LineNew, of the program and of the reference.
  The draw of a line.
  Plain laws on lines: what a move saves; the run of LineFinish's moves; when a line is done. No program in sight.
  The draws of lines; sameMoves and sameLine.
  What a law on lines keeps: its line's box; the contracts at it.
-/
import Derived.Test.YtokddeoliieofaaXb
import Derived.Test.YtokddeoliieofaaKn
import Derived.Test.YtokddeoliieofaaXa
import Derived.Test.YtokddeoliieofaaSm
import Derived.Test.YtokddeoliieofaaRx
namespace Go.Proofs.Ytokddeoliieofaa
open Go.RowKit

theorem railway_at {bb bo cb tb tu ct : Nat} {x : Ln} {w : World} (hn : x.n ≤ 1000000000000) (hm : x.m ≤ 1000000000000) (hbk : BkC w bb bo x.n x.N x.I x.O) (hic : IC w tb tu x.m x.T) :
    ∀ w', Below w.heap.size w w' → Calls Try.prog 92 #[.agg #[.slice (some ⟨bb, bo, none⟩) x.n cb, .slice (some ⟨tb, tu, none⟩) x.m ct]] w' (RwO x w') := fun w' hb => railwayOf_any bb bo cb tb tu ct x w' hn hm (hbk.keep hb) (hic.keep hb)
def stO (x : Ln) (s : Int) (l : ByteArray) : Option Ln := if vldL x = true then stepO x s l else none
/-- what LineLeft gives -/
def lefO (x : Ln) : Int := if vldL x = true then lefS x x.n else -1
/-- a block is normal -/
def nrmB (x : Ln) (k : Nat) : Bool := decide (x.N k = 0) && (!x.I k && !x.O k)
/-- what LineDone gives -/
def donL (x : Ln) : Bool := vldL x && (decide (cntA x.T (2 * x.n) x.m = x.m) && allB x.n (nrmB x))
end Go.Proofs.Ytokddeoliieofaa
namespace Go.Proofs.Ytokddeoliieofaa
open Go.RowKit

theorem cntA_full {f : Nat → Int} {p : Int} : ∀ m, cntA f p m = m ↔ ∀ i, i < m → f i = p
  | 0 => ⟨fun _ i hi => by omega, fun _ => rfl⟩
  | m + 1 => by
    have ih := cntA_full (f := f) (p := p) m
    have hle := cntA_le f p m
    simp only [cntA]
    constructor
    · intro h
      by_cases e : f m = p
      · rw [if_pos e] at h
        have h2 := ih.1 (by omega)
        intro i hi
        rcases Nat.lt_or_ge i m with h3 | h3
        · exact h2 i h3
        · obtain rfl : i = m := by omega
          exact e
      · rw [if_neg e] at h
        omega
    · intro h
      rw [if_pos (h m (by omega)), ih.2 fun i hi => h i (by omega)]
/-- a train is at the end -/
def atEnd (x : Ln) (i : Nat) : Bool := decide (x.T i = 2 * (x.n : Int))
def dn4 (x : Ln) : Bool := allB x.n (nrmB x) && allB x.m (atEnd x)
theorem donL_dn4 (x : Ln) : donL x = (vldL x && dn4 x) := by
  unfold donL dn4
  have h : decide (cntA x.T (2 * x.n) x.m = x.m) = allB x.m (atEnd x) := by
    rw [Bool.eq_iff_iff, decide_eq_true_eq, cntA_full, allB_true]
    unfold atEnd
    simp only [decide_eq_true_eq]
  rw [h, Bool.and_comm (allB x.m (atEnd x))]
end Go.Proofs.Ytokddeoliieofaa
namespace Go.Proofs.Ytokddeoliieofaa
open Go.RowKit

/-- a new line -/
def newL (n m : Nat) : Ln := { n := n, N := fun _ => 0, I := fun _ => false, O := fun _ => false, m := m, T := fun _ => 0 }
def nwO (n t : Int) : Option Ln := if inB n 1 5 && inB t 0 5 then some (newL n.toNat t.toNat) else none
theorem nwO_yes {n t : Nat} (h1 : inB n 1 5 = true) (h2 : inB t 0 5 = true) : nwO n t = some (newL n t) := by
  unfold nwO
  rw [h1, h2]
  rfl
theorem nwO_n {n t : Int} (h1 : inB n 1 5 = false) : nwO n t = none := by
  unfold nwO
  rw [h1]
  rfl
theorem nwO_t {n t : Int} (h1 : inB t 0 5 = false) : nwO n t = none := by
  unfold nwO
  rw [h1, Bool.and_false]
  rfl
/-- behind the two rows of a new line -/
theorem nw_done {w wr : World} {g1 g2 n m : Nat} (h1 : Own wr g1 n n 3 46 (bkF (newL n m).N (newL n m).I (newL n m).O)) (h2 : Own wr g2 m m 1 3 (fun _ => .int .i64 0)) (hg : g1 ≠ g2) (h3 : w.heap.size + 1 ≤ g1) (h4 : w.heap.size + 1 ≤ g2) (hb : Below w.heap.size w wr) (n' t' : Int) (ho : nwO n' t' = some (newL n m)) :
    LrR (nwO n' t') w (.returned (.tuple #[.agg #[.slice (some ⟨g1, 0, none⟩) n n, .slice (some ⟨g2, 0, none⟩) m m], .bool true])) wr :=
  ⟨hb, .inr ⟨newL n m, _, ho, rfl, g1, n, g2, m, rfl, h1, h2, hg, by omega, by omega⟩⟩
theorem nw_two {w W : World} {z : Nat} (hz : z = W.heap.size) (hB : Below w.heap.size w W) (hs : w.heap.size + 1 ≤ W.heap.size) (n m : Nat) (hn : n ≤ 5) (hm : m ≤ 5) :
    Own ((W.alloc (.cells (madeCells #[.int .i64 0, .bool false, .bool false] (n * 3)) 46)).alloc (.cells (madeCells #[.int .i64 0] m) 3)) z n n 3 46 (bkF (newL n m).N (newL n m).I (newL n m).O) ∧
    Own ((W.alloc (.cells (madeCells #[.int .i64 0, .bool false, .bool false] (n * 3)) 46)).alloc (.cells (madeCells #[.int .i64 0] m) 3)) (z + 1) m m 1 3 (fun _ => .int .i64 0) ∧
    Below w.heap.size w ((W.alloc (.cells (madeCells #[.int .i64 0, .bool false, .bool false] (n * 3)) 46)).alloc (.cells (madeCells #[.int .i64 0] m) 3)) := by
  subst hz
  refine ⟨(own_bk0 W n (by omega)).alloc _, ?_, (hB.alloc (by omega) _).alloc (by simp; omega) _⟩
  have h := own_full1 (W.alloc (.cells (madeCells #[.int .i64 0, .bool false, .bool false] (n * 3)) 46)) (.int .i64 0) m 3 (by unfold maxLen; omega)
  rw [World.size_alloc] at h
  exact h
theorem nw_two' {w W : World} {z : Nat} (hz : z = W.heap.size) (hB : Below w.heap.size w W) (hs : w.heap.size + 1 ≤ W.heap.size) (n m : Nat) (hn : n ≤ 5) (hm : m ≤ 5) :
    Own ((W.alloc (.cells (madeCells #[.int .i64 0] m) 3)).alloc (.cells (madeCells #[.int .i64 0, .bool false, .bool false] (n * 3)) 46)) (z + 1) n n 3 46 (bkF (newL n m).N (newL n m).I (newL n m).O) ∧
    Own ((W.alloc (.cells (madeCells #[.int .i64 0] m) 3)).alloc (.cells (madeCells #[.int .i64 0, .bool false, .bool false] (n * 3)) 46)) z m m 1 3 (fun _ => .int .i64 0) ∧
    Below w.heap.size w ((W.alloc (.cells (madeCells #[.int .i64 0] m) 3)).alloc (.cells (madeCells #[.int .i64 0, .bool false, .bool false] (n * 3)) 46)) := by
  subst hz
  refine ⟨?_, (own_full1 W (.int .i64 0) m 3 (by unfold maxLen; omega)).alloc _, (hB.alloc (by omega) _).alloc (by simp; omega) _⟩
  have h := own_bk0 (W.alloc (.cells (madeCells #[.int .i64 0] m) 3)) n (by omega)
  rw [World.size_alloc] at h
  exact h
set_option linter.unusedSimpArgs false in
set_option maxHeartbeats 2000000 in
theorem lineNew_any (n t : Int) (w : World) (hn : -9223372036854775808 ≤ n ∧ n ≤ 9223372036854775807) :
    Calls Try.prog 56 #[.int .i64 n, .int .i64 t] w (LrR (nwO n t) w) := by
  have HBB : Hid (∀ a, Below w.heap.size w (w.alloc a)) := fun a => below_all _ _
  have hbx : ∀ o, (w.alloc (.cells #[.slice none 0 0, .slice none 0 0] 75)).cell? ⟨w.heap.size, o, none⟩ = (#[.slice none 0 0, .slice none 0 0] : Array Value)[o]? := box_new _ _ _
  have HSV := fun W => Lib.hid (sectionsValid_any n W hn)
  cases h1 : inB n 1 5
  · have HV := Lib.hid (nwO_n (t := t) h1)
    have H1 := Lib.hid h1
    clear h1 hn
    go_enter Try.func56, Try.ntmps56
    go_wp2_with fail
    refine (HSV _).out.mono ?_
    rintro e w' ⟨rfl, rfl⟩
    rw [H1.out]
    go_wp2_with fail
    exact bodyPost_ret (v := .tuple #[nilLn, .bool false]) (by simp [results, Try.results56, go_sem, hbx, nilLn]) rfl ⟨HBB.out _, .inl ⟨HV.out, rfl⟩⟩
  · have h1' := inB_true.1 h1
    have H1 := Lib.hid h1
    clear h1
    by_cases h2 : t < 0
    · have HV := Lib.hid (nwO_t (n := n) (inB_false.2 (by omega) : inB t 0 5 = false))
      clear hn
      go_enter Try.func56, Try.ntmps56
      go_wp2_with fail
      refine (HSV _).out.mono ?_
      rintro e w' ⟨rfl, rfl⟩
      rw [H1.out]
      go_wp2_with fail
      exact bodyPost_ret (v := .tuple #[nilLn, .bool false]) (by simp [results, Try.results56, go_sem, hbx, nilLn]) rfl ⟨HBB.out _, .inl ⟨HV.out, rfl⟩⟩
    by_cases h3 : 5 < t
    · have HV := Lib.hid (nwO_t (n := n) (inB_false.2 (by omega) : inB t 0 5 = false))
      clear hn
      go_enter Try.func56, Try.ntmps56
      go_wp2_with fail
      refine (HSV _).out.mono ?_
      rintro e w' ⟨rfl, rfl⟩
      rw [H1.out]
      go_wp2_with fail
      exact bodyPost_ret (v := .tuple #[nilLn, .bool false]) (by simp [results, Try.results56, go_sem, hbx, nilLn]) rfl ⟨HBB.out _, .inl ⟨HV.out, rfl⟩⟩
    obtain ⟨n, rfl⟩ := Int.eq_ofNat_of_zero_le (show 0 ≤ n by omega)
    obtain ⟨t, rfl⟩ := Int.eq_ofNat_of_zero_le (show 0 ≤ t by omega)
    have HV := Lib.hid (nwO_yes (n := n) (t := t) (inB_true.2 (by omega)) (inB_true.2 (by omega)))
    have hmkb := fun w => run_mk elBk n n (Nat.le_refl _) (by omega) (by omega) w
    have hmki := fun w => run_mk elInt t t (Nat.le_refl _) (by omega) (by omega) w
    simp only [Nat.mul_one] at hmki
    clear hn
    go_enter Try.func56, Try.ntmps56
    go_wp2_with fail
    refine (HSV _).out.mono ?_
    rintro e w' ⟨rfl, rfl⟩
    rw [H1.out]
    obtain ⟨W0, hW0⟩ : ∃ W0, W0 = (w.alloc (.cells #[.slice none 0 0, .slice none 0 0] 75)).drew := ⟨_, rfl⟩
    have hr0 : ∀ o, W0.cell? ⟨w.heap.size, o, none⟩ = (#[.slice none 0 0, .slice none 0 0] : Array Value)[o]? := by rw [hW0]; exact box_new _ _ _
    have hrf : ∀ o, W0.frozen? ⟨w.heap.size, o, none⟩ = false := by rw [hW0]; exact (Bx.new w 75 #[.slice none 0 0, .slice none 0 0]).free
    have hrs : w.heap.size < W0.heap.size := by rw [hW0]; simp
    have HB0 : Hid (Below w.heap.size w W0) := by rw [hW0]; exact (below_all w (.cells #[.slice none 0 0, .slice none 0 0] 75)).drew
    go_wp2_with fail
    refine wp_region_held_drew (S := (fun _ => True)) (by kernel_rfl) trivial (fun hHeld => ?_)
    rw [← hW0]
    clear hW0
    refine wpAnyH_take (i := 0) (oi := ?_) (v := ?_) ?_ (by kernel_rfl) (by kernel_rfl) (by kernel_rfl) ?_ ?_ (by assumption) ?_
    rotate_left 2
    · simp only [List.getElem?_toArray, List.getElem?_cons_succ, List.getElem?_cons_zero]; rfl
    · exact fun _ _ _ h => h
    · first
        | (refine Or.inr ⟨?_, ?_⟩ <;> rfl)
        | (refine Or.inl ⟨?_, ?_⟩; · rfl
           intro w hSw; (try dsimp only at hSw); go_simp; (try with_reducible rfl); done)
    try simp only [Act.put, List.setIfInBounds_toArray, List.set_cons_zero, List.set_cons_succ]
    refine wpAnyH_take (i := 2) (oi := ?_) (v := ?_) ?_ (by kernel_rfl) (by kernel_rfl) (by kernel_rfl) ?_ ?_ (by assumption) ?_
    rotate_left 2
    · simp only [List.getElem?_toArray, List.getElem?_cons_succ, List.getElem?_cons_zero]; rfl
    · exact fun _ _ _ h => h
    · first
        | (refine Or.inr ⟨?_, ?_⟩ <;> rfl)
        | (refine Or.inl ⟨?_, ?_⟩; · rfl
           intro w hSw; (try dsimp only at hSw); go_simp; (try with_reducible rfl); done)
    try simp only [Act.put, List.setIfInBounds_toArray, List.set_cons_zero, List.set_cons_succ]
    refine wpAnyH_ready (rs := [1, 3]) (by kernel_rfl) (by simp) ?_
    refine AllReadyH.cons (o := ?_) ?_ (fun K hK => ?_) ?_
    rotate_left 1
    · simp only [List.getElem?_toArray, List.getElem?_cons_succ, List.getElem?_cons_zero]; rfl
    · go_simp
      refine hK.out _ _ ?_ (fun hHeld => ?_)
      · exact trivial
      clear hK K
      try simp only [Act.put, List.setIfInBounds_toArray, List.set_cons_zero, List.set_cons_succ]
      refine wpAnyH_ready (rs := [3]) (by kernel_rfl) (by simp) ?_
      refine AllReadyH.cons (o := ?_) ?_ (fun K hK => ?_) AllReadyH.nil
      rotate_left 1
      · simp only [List.getElem?_toArray, List.getElem?_cons_succ, List.getElem?_cons_zero]; rfl
      go_simp
      refine hK.out _ _ ?_ (fun hHeld => ?_)
      · exact trivial
      clear hK K
      try simp only [Act.put, List.setIfInBounds_toArray, List.set_cons_zero, List.set_cons_succ]
      refine wpAnyH_take (i := 4) (oi := ?_) (v := ?_) ?_ (by kernel_rfl) (by kernel_rfl) (by kernel_rfl) ?_ ?_ (by assumption) ?_
      rotate_left 2
      · simp only [List.getElem?_toArray, List.getElem?_cons_succ, List.getElem?_cons_zero]; rfl
      · exact fun _ _ _ h => h
      · first
          | (refine Or.inr ⟨?_, ?_⟩ <;> rfl)
          | (refine Or.inl ⟨?_, ?_⟩; · rfl
             intro w hSw; (try dsimp only at hSw); go_simp; (try with_reducible rfl); done)
      try simp only [Act.put, List.setIfInBounds_toArray, List.set_cons_zero, List.set_cons_succ]
      refine wpAnyH_ready (rs := [5]) (by kernel_rfl) (by simp) ?_
      refine AllReadyH.cons (o := ?_) ?_ (fun K hK => ?_) AllReadyH.nil
      rotate_left 1
      · simp only [List.getElem?_toArray, List.getElem?_cons_succ, List.getElem?_cons_zero]; rfl
      go_simp
      refine hK.out _ _ ?_ (fun hHeld => ?_)
      · exact trivial
      clear hK K
      try simp only [Act.put, List.setIfInBounds_toArray, List.set_cons_zero, List.set_cons_succ]
      refine wpAnyH_take (i := 6) (oi := ?_) (v := ?_) ?_ (by kernel_rfl) (by kernel_rfl) (by kernel_rfl) ?_ ?_ (by assumption) ?_
      rotate_left 2
      · simp only [List.getElem?_toArray, List.getElem?_cons_succ, List.getElem?_cons_zero]; rfl
      · exact fun _ _ _ h => h
      · first
          | (refine Or.inr ⟨?_, ?_⟩ <;> rfl)
          | (refine Or.inl ⟨?_, ?_⟩; · rfl
             intro w hSw; (try dsimp only at hSw); go_simp; (try with_reducible rfl); done)
      try simp only [Act.put, List.setIfInBounds_toArray, List.set_cons_zero, List.set_cons_succ]
      refine wpAnyH_done (by kernel_rfl) ?_ _
      go_wp2_with fail
      refine bodyPost_ret (v := .tuple #[.agg #[.slice (some ⟨W0.heap.size, 0, none⟩) n n, .slice (some ⟨W0.heap.size + 1, 0, none⟩) t t], .bool true]) (by simp [results, Try.results56, Try.results57, go_sem, hr0, hrs]) rfl ?_
      obtain ⟨h1, h2, h3⟩ := nw_two (w := w) (W := (W0.setCell ⟨w.heap.size, 0, none⟩ (.slice (some ⟨W0.heap.size, 0, none⟩) n n)).setCell ⟨w.heap.size, 1, none⟩ (.slice (some ⟨W0.heap.size + 1, 0, none⟩) t t)) (z := W0.heap.size) (by simp) ((HB0.out.setCell (Nat.le_refl _) _).setCell (Nat.le_refl _) _) (by simp; omega) n t (by omega) (by omega)
      exact nw_done h1 h2 (by omega) (by omega) (by omega) h3 _ _ HV.out
    · refine AllReadyH.cons (o := ?_) ?_ (fun K hK => ?_) ?_
      rotate_left 1
      · simp only [List.getElem?_toArray, List.getElem?_cons_succ, List.getElem?_cons_zero]; rfl
      · go_simp
        refine hK.out _ _ ?_ (fun hHeld => ?_)
        · exact trivial
        clear hK K
        try simp only [Act.put, List.setIfInBounds_toArray, List.set_cons_zero, List.set_cons_succ]
        refine wpAnyH_ready (rs := [1]) (by kernel_rfl) (by simp) ?_
        refine AllReadyH.cons (o := ?_) ?_ (fun K hK => ?_) AllReadyH.nil
        rotate_left 1
        · simp only [List.getElem?_toArray, List.getElem?_cons_succ, List.getElem?_cons_zero]; rfl
        go_simp
        refine hK.out _ _ ?_ (fun hHeld => ?_)
        · exact trivial
        clear hK K
        try simp only [Act.put, List.setIfInBounds_toArray, List.set_cons_zero, List.set_cons_succ]
        refine wpAnyH_take (i := 4) (oi := ?_) (v := ?_) ?_ (by kernel_rfl) (by kernel_rfl) (by kernel_rfl) ?_ ?_ (by assumption) ?_
        rotate_left 2
        · simp only [List.getElem?_toArray, List.getElem?_cons_succ, List.getElem?_cons_zero]; rfl
        · exact fun _ _ _ h => h
        · first
            | (refine Or.inr ⟨?_, ?_⟩ <;> rfl)
            | (refine Or.inl ⟨?_, ?_⟩; · rfl
               intro w hSw; (try dsimp only at hSw); go_simp; (try with_reducible rfl); done)
        try simp only [Act.put, List.setIfInBounds_toArray, List.set_cons_zero, List.set_cons_succ]
        refine wpAnyH_ready (rs := [5]) (by kernel_rfl) (by simp) ?_
        refine AllReadyH.cons (o := ?_) ?_ (fun K hK => ?_) AllReadyH.nil
        rotate_left 1
        · simp only [List.getElem?_toArray, List.getElem?_cons_succ, List.getElem?_cons_zero]; rfl
        go_simp
        refine hK.out _ _ ?_ (fun hHeld => ?_)
        · exact trivial
        clear hK K
        try simp only [Act.put, List.setIfInBounds_toArray, List.set_cons_zero, List.set_cons_succ]
        refine wpAnyH_take (i := 6) (oi := ?_) (v := ?_) ?_ (by kernel_rfl) (by kernel_rfl) (by kernel_rfl) ?_ ?_ (by assumption) ?_
        rotate_left 2
        · simp only [List.getElem?_toArray, List.getElem?_cons_succ, List.getElem?_cons_zero]; rfl
        · exact fun _ _ _ h => h
        · first
            | (refine Or.inr ⟨?_, ?_⟩ <;> rfl)
            | (refine Or.inl ⟨?_, ?_⟩; · rfl
               intro w hSw; (try dsimp only at hSw); go_simp; (try with_reducible rfl); done)
        try simp only [Act.put, List.setIfInBounds_toArray, List.set_cons_zero, List.set_cons_succ]
        refine wpAnyH_done (by kernel_rfl) ?_ _
        go_wp2_with fail
        refine bodyPost_ret (v := .tuple #[.agg #[.slice (some ⟨W0.heap.size + 1, 0, none⟩) n n, .slice (some ⟨W0.heap.size, 0, none⟩) t t], .bool true]) (by simp [results, Try.results56, Try.results57, go_sem, hr0, hrs]) rfl ?_
        obtain ⟨h1, h2, h3⟩ := nw_two' (w := w) (W := (W0.setCell ⟨w.heap.size, 0, none⟩ (.slice (some ⟨W0.heap.size + 1, 0, none⟩) n n)).setCell ⟨w.heap.size, 1, none⟩ (.slice (some ⟨W0.heap.size, 0, none⟩) t t)) (z := W0.heap.size) (by simp) ((HB0.out.setCell (Nat.le_refl _) _).setCell (Nat.le_refl _) _) (by simp; omega) n t (by omega) (by omega)
        exact nw_done h1 h2 (by omega) (by omega) (by omega) h3 _ _ HV.out
      · exact AllReadyH.nil
set_option linter.unusedSimpArgs false in
set_option maxHeartbeats 2000000 in
theorem specLineNew_any (n t : Int) (w : World) :
    Calls Try.prog 57 #[.int .i64 n, .int .i64 t] w (LrR (nwO n t) w) := by
  have HBB : Hid (∀ a, Below w.heap.size w (w.alloc a)) := fun a => below_all _ _
  have hbx : ∀ o, (w.alloc (.cells #[.slice none 0 0, .slice none 0 0] 75)).cell? ⟨w.heap.size, o, none⟩ = (#[.slice none 0 0, .slice none 0 0] : Array Value)[o]? := box_new _ _ _
  cases h1 : inB n 1 5
  · have HV := Lib.hid (nwO_n (t := t) h1)
    have H1 := Lib.hid h1
    clear h1
    go_enter Try.func57, Try.ntmps57
    go_wp2_with fail
    refine (l6In_any _ _ _ _).mono ?_
    rintro e w' ⟨rfl, rfl⟩
    rw [H1.out]
    go_wp2_with fail
    exact bodyPost_ret (v := .tuple #[nilLn, .bool false]) (by simp [results, Try.results57, go_sem, hbx, nilLn]) rfl ⟨HBB.out _, .inl ⟨HV.out, rfl⟩⟩
  cases h2 : inB t 0 5
  · have HV := Lib.hid (nwO_t (n := n) h2)
    have H1 := Lib.hid h1
    have H2 := Lib.hid h2
    clear h1 h2
    go_enter Try.func57, Try.ntmps57
    go_wp2_with fail
    refine (l6In_any _ _ _ _).mono ?_
    rintro e w' ⟨rfl, rfl⟩
    rw [H1.out]
    go_wp2_with fail
    refine (l6In_any _ _ _ _).mono ?_
    rintro e w' ⟨rfl, rfl⟩
    rw [H2.out]
    go_wp2_with fail
    exact bodyPost_ret (v := .tuple #[nilLn, .bool false]) (by simp [results, Try.results57, go_sem, hbx, nilLn]) rfl ⟨HBB.out _, .inl ⟨HV.out, rfl⟩⟩
  have h1' := inB_true.1 h1
  have h2' := inB_true.1 h2
  obtain ⟨n, rfl⟩ := Int.eq_ofNat_of_zero_le (show 0 ≤ n by omega)
  obtain ⟨t, rfl⟩ := Int.eq_ofNat_of_zero_le (show 0 ≤ t by omega)
  have HV := Lib.hid (nwO_yes (n := n) (t := t) h1 h2)
  have H1 := Lib.hid h1
  have H2 := Lib.hid h2
  clear h1 h2
  have hmkb := fun w => run_mk elBk n n (Nat.le_refl _) (by omega) (by omega) w
  have hmki := fun w => run_mk elInt t t (Nat.le_refl _) (by omega) (by omega) w
  simp only [Nat.mul_one] at hmki
  go_enter Try.func57, Try.ntmps57
  go_wp2_with fail
  refine (l6In_any _ _ _ _).mono ?_
  rintro e w' ⟨rfl, rfl⟩
  rw [H1.out]
  go_wp2_with fail
  refine (l6In_any _ _ _ _).mono ?_
  rintro e w' ⟨rfl, rfl⟩
  rw [H2.out]
  obtain ⟨W0, hW0⟩ : ∃ W0, W0 = (w.alloc (.cells #[.slice none 0 0, .slice none 0 0] 75)).drew := ⟨_, rfl⟩
  have hr0 : ∀ o, W0.cell? ⟨w.heap.size, o, none⟩ = (#[.slice none 0 0, .slice none 0 0] : Array Value)[o]? := by rw [hW0]; exact box_new _ _ _
  have hrf : ∀ o, W0.frozen? ⟨w.heap.size, o, none⟩ = false := by rw [hW0]; exact (Bx.new w 75 #[.slice none 0 0, .slice none 0 0]).free
  have hrs : w.heap.size < W0.heap.size := by rw [hW0]; simp
  have HB0 : Hid (Below w.heap.size w W0) := by rw [hW0]; exact (below_all w (.cells #[.slice none 0 0, .slice none 0 0] 75)).drew
  go_wp2_with fail
  refine wp_region_held_drew (S := (fun _ => True)) (by kernel_rfl) trivial (fun hHeld => ?_)
  rw [← hW0]
  clear hW0
  refine wpAnyH_take (i := 0) (oi := ?_) (v := ?_) ?_ (by kernel_rfl) (by kernel_rfl) (by kernel_rfl) ?_ ?_ (by assumption) ?_
  rotate_left 2
  · simp only [List.getElem?_toArray, List.getElem?_cons_succ, List.getElem?_cons_zero]; rfl
  · exact fun _ _ _ h => h
  · first
      | (refine Or.inr ⟨?_, ?_⟩ <;> rfl)
      | (refine Or.inl ⟨?_, ?_⟩; · rfl
         intro w hSw; (try dsimp only at hSw); go_simp; (try with_reducible rfl); done)
  try simp only [Act.put, List.setIfInBounds_toArray, List.set_cons_zero, List.set_cons_succ]
  refine wpAnyH_take (i := 2) (oi := ?_) (v := ?_) ?_ (by kernel_rfl) (by kernel_rfl) (by kernel_rfl) ?_ ?_ (by assumption) ?_
  rotate_left 2
  · simp only [List.getElem?_toArray, List.getElem?_cons_succ, List.getElem?_cons_zero]; rfl
  · exact fun _ _ _ h => h
  · first
      | (refine Or.inr ⟨?_, ?_⟩ <;> rfl)
      | (refine Or.inl ⟨?_, ?_⟩; · rfl
         intro w hSw; (try dsimp only at hSw); go_simp; (try with_reducible rfl); done)
  try simp only [Act.put, List.setIfInBounds_toArray, List.set_cons_zero, List.set_cons_succ]
  refine wpAnyH_ready (rs := [1, 3]) (by kernel_rfl) (by simp) ?_
  refine AllReadyH.cons (o := ?_) ?_ (fun K hK => ?_) ?_
  rotate_left 1
  · simp only [List.getElem?_toArray, List.getElem?_cons_succ, List.getElem?_cons_zero]; rfl
  · go_simp
    refine hK.out _ _ ?_ (fun hHeld => ?_)
    · exact trivial
    clear hK K
    try simp only [Act.put, List.setIfInBounds_toArray, List.set_cons_zero, List.set_cons_succ]
    refine wpAnyH_ready (rs := [3]) (by kernel_rfl) (by simp) ?_
    refine AllReadyH.cons (o := ?_) ?_ (fun K hK => ?_) AllReadyH.nil
    rotate_left 1
    · simp only [List.getElem?_toArray, List.getElem?_cons_succ, List.getElem?_cons_zero]; rfl
    go_simp
    refine hK.out _ _ ?_ (fun hHeld => ?_)
    · exact trivial
    clear hK K
    try simp only [Act.put, List.setIfInBounds_toArray, List.set_cons_zero, List.set_cons_succ]
    refine wpAnyH_take (i := 4) (oi := ?_) (v := ?_) ?_ (by kernel_rfl) (by kernel_rfl) (by kernel_rfl) ?_ ?_ (by assumption) ?_
    rotate_left 2
    · simp only [List.getElem?_toArray, List.getElem?_cons_succ, List.getElem?_cons_zero]; rfl
    · exact fun _ _ _ h => h
    · first
        | (refine Or.inr ⟨?_, ?_⟩ <;> rfl)
        | (refine Or.inl ⟨?_, ?_⟩; · rfl
           intro w hSw; (try dsimp only at hSw); go_simp; (try with_reducible rfl); done)
    try simp only [Act.put, List.setIfInBounds_toArray, List.set_cons_zero, List.set_cons_succ]
    refine wpAnyH_ready (rs := [5]) (by kernel_rfl) (by simp) ?_
    refine AllReadyH.cons (o := ?_) ?_ (fun K hK => ?_) AllReadyH.nil
    rotate_left 1
    · simp only [List.getElem?_toArray, List.getElem?_cons_succ, List.getElem?_cons_zero]; rfl
    go_simp
    refine hK.out _ _ ?_ (fun hHeld => ?_)
    · exact trivial
    clear hK K
    try simp only [Act.put, List.setIfInBounds_toArray, List.set_cons_zero, List.set_cons_succ]
    refine wpAnyH_take (i := 6) (oi := ?_) (v := ?_) ?_ (by kernel_rfl) (by kernel_rfl) (by kernel_rfl) ?_ ?_ (by assumption) ?_
    rotate_left 2
    · simp only [List.getElem?_toArray, List.getElem?_cons_succ, List.getElem?_cons_zero]; rfl
    · exact fun _ _ _ h => h
    · first
        | (refine Or.inr ⟨?_, ?_⟩ <;> rfl)
        | (refine Or.inl ⟨?_, ?_⟩; · rfl
           intro w hSw; (try dsimp only at hSw); go_simp; (try with_reducible rfl); done)
    try simp only [Act.put, List.setIfInBounds_toArray, List.set_cons_zero, List.set_cons_succ]
    refine wpAnyH_done (by kernel_rfl) ?_ _
    go_wp2_with fail
    refine bodyPost_ret (v := .tuple #[.agg #[.slice (some ⟨W0.heap.size, 0, none⟩) n n, .slice (some ⟨W0.heap.size + 1, 0, none⟩) t t], .bool true]) (by simp [results, Try.results56, Try.results57, go_sem, hr0, hrs]) rfl ?_
    obtain ⟨h1, h2, h3⟩ := nw_two (w := w) (W := (W0.setCell ⟨w.heap.size, 0, none⟩ (.slice (some ⟨W0.heap.size, 0, none⟩) n n)).setCell ⟨w.heap.size, 1, none⟩ (.slice (some ⟨W0.heap.size + 1, 0, none⟩) t t)) (z := W0.heap.size) (by simp) ((HB0.out.setCell (Nat.le_refl _) _).setCell (Nat.le_refl _) _) (by simp; omega) n t (by omega) (by omega)
    exact nw_done h1 h2 (by omega) (by omega) (by omega) h3 _ _ HV.out
  · refine AllReadyH.cons (o := ?_) ?_ (fun K hK => ?_) ?_
    rotate_left 1
    · simp only [List.getElem?_toArray, List.getElem?_cons_succ, List.getElem?_cons_zero]; rfl
    · go_simp
      refine hK.out _ _ ?_ (fun hHeld => ?_)
      · exact trivial
      clear hK K
      try simp only [Act.put, List.setIfInBounds_toArray, List.set_cons_zero, List.set_cons_succ]
      refine wpAnyH_ready (rs := [1]) (by kernel_rfl) (by simp) ?_
      refine AllReadyH.cons (o := ?_) ?_ (fun K hK => ?_) AllReadyH.nil
      rotate_left 1
      · simp only [List.getElem?_toArray, List.getElem?_cons_succ, List.getElem?_cons_zero]; rfl
      go_simp
      refine hK.out _ _ ?_ (fun hHeld => ?_)
      · exact trivial
      clear hK K
      try simp only [Act.put, List.setIfInBounds_toArray, List.set_cons_zero, List.set_cons_succ]
      refine wpAnyH_take (i := 4) (oi := ?_) (v := ?_) ?_ (by kernel_rfl) (by kernel_rfl) (by kernel_rfl) ?_ ?_ (by assumption) ?_
      rotate_left 2
      · simp only [List.getElem?_toArray, List.getElem?_cons_succ, List.getElem?_cons_zero]; rfl
      · exact fun _ _ _ h => h
      · first
          | (refine Or.inr ⟨?_, ?_⟩ <;> rfl)
          | (refine Or.inl ⟨?_, ?_⟩; · rfl
             intro w hSw; (try dsimp only at hSw); go_simp; (try with_reducible rfl); done)
      try simp only [Act.put, List.setIfInBounds_toArray, List.set_cons_zero, List.set_cons_succ]
      refine wpAnyH_ready (rs := [5]) (by kernel_rfl) (by simp) ?_
      refine AllReadyH.cons (o := ?_) ?_ (fun K hK => ?_) AllReadyH.nil
      rotate_left 1
      · simp only [List.getElem?_toArray, List.getElem?_cons_succ, List.getElem?_cons_zero]; rfl
      go_simp
      refine hK.out _ _ ?_ (fun hHeld => ?_)
      · exact trivial
      clear hK K
      try simp only [Act.put, List.setIfInBounds_toArray, List.set_cons_zero, List.set_cons_succ]
      refine wpAnyH_take (i := 6) (oi := ?_) (v := ?_) ?_ (by kernel_rfl) (by kernel_rfl) (by kernel_rfl) ?_ ?_ (by assumption) ?_
      rotate_left 2
      · simp only [List.getElem?_toArray, List.getElem?_cons_succ, List.getElem?_cons_zero]; rfl
      · exact fun _ _ _ h => h
      · first
          | (refine Or.inr ⟨?_, ?_⟩ <;> rfl)
          | (refine Or.inl ⟨?_, ?_⟩; · rfl
             intro w hSw; (try dsimp only at hSw); go_simp; (try with_reducible rfl); done)
      try simp only [Act.put, List.setIfInBounds_toArray, List.set_cons_zero, List.set_cons_succ]
      refine wpAnyH_done (by kernel_rfl) ?_ _
      go_wp2_with fail
      refine bodyPost_ret (v := .tuple #[.agg #[.slice (some ⟨W0.heap.size + 1, 0, none⟩) n n, .slice (some ⟨W0.heap.size, 0, none⟩) t t], .bool true]) (by simp [results, Try.results56, Try.results57, go_sem, hr0, hrs]) rfl ?_
      obtain ⟨h1, h2, h3⟩ := nw_two' (w := w) (W := (W0.setCell ⟨w.heap.size, 0, none⟩ (.slice (some ⟨W0.heap.size + 1, 0, none⟩) n n)).setCell ⟨w.heap.size, 1, none⟩ (.slice (some ⟨W0.heap.size, 0, none⟩) t t)) (z := W0.heap.size) (by simp) ((HB0.out.setCell (Nat.le_refl _) _).setCell (Nat.le_refl _) _) (by simp; omega) n t (by omega) (by omega)
      exact nw_done h1 h2 (by omega) (by omega) (by omega) h3 _ _ HV.out
    · exact AllReadyH.nil
end Go.Proofs.Ytokddeoliieofaa
namespace Go.Proofs.Ytokddeoliieofaa
open Go.RowKit

theorem cntA_none {f : Nat → Int} {p : Int} (h : ∀ i, f i ≠ p) : ∀ m, cntA f p m = 0
  | 0 => rfl
  | m + 1 => by
    simp only [cntA]
    rw [cntA_none h m, if_neg (h m)]
theorem newL_vld {n m : Nat} (h1 : 1 ≤ n) (h2 : n ≤ 5) (h3 : m ≤ 5) : vldL (newL n m) = true := by
  refine vldL_of (inB_true.2 ⟨by show (1 : Int) ≤ (n : Int); omega, by show (n : Int) ≤ 5; omega⟩) h3 (fun k _ => rfl) (fun i _ => ?_) (fun k _ => ?_)
  · rw [trOk_true]
    exact ⟨⟨Int.le_refl _, by show (0 : Int) ≤ 2 * (n : Int); omega⟩, .inr (Int.le_refl _)⟩
  · rw [cnOk_true]
    show cntA (fun _ => 0) (2 * (k : Int) + 1) m = 0
    exact cntA_none (fun i => by omega) m
/-- the boxes of the draw of a line -/
structure DlM (w wr : World) (R b3 g1 c1 g2 c2 : Nat) (y : Ln) (M : Nat) : Prop where
  res : Bx wr w.heap.size 75 #[.slice none 0 0, .slice none 0 0]
  box : Bx wr b3 75 #[.slice (some ⟨g1, 0, none⟩) y.n c1, .slice (some ⟨g2, 0, none⟩) y.m c2]
  bs : Own wr g1 c1 y.n 3 46 (bkF y.N y.I y.O)
  ts : Own wr g2 c2 y.m 1 3 (fun i => .int .i64 (y.T i))
  d : g1 ≠ g2
  d1 : b3 ≠ g1
  d2 : b3 ≠ g2
  h1 : w.heap.size < g1
  h2 : w.heap.size < g2
  h3 : w.heap.size < b3
  rd : RdL wr R M
  hR : R < w.heap.size
  gr : w.grownBy wr (some R)
section
variable {w wr w' : World} {R b3 g1 c1 g2 c2 M M' : Nat} {y : Ln}
theorem DlM.lts (h : DlM w wr R b3 g1 c1 g2 c2 y M) : w.heap.size < wr.heap.size ∧ b3 < wr.heap.size ∧ g1 < wr.heap.size ∧ g2 < wr.heap.size := ⟨h.res.lt, h.box.lt, h.bs.lt, h.ts.lt⟩
theorem DlM.below (h : DlM w wr R b3 g1 c1 g2 c2 y M) (hb : Below wr.heap.size wr w') : DlM w w' R b3 g1 c1 g2 c2 y M := by
  obtain ⟨z0, z1, z2, z3⟩ := h.lts
  exact ⟨h.res.below hb z0, h.box.below hb z1, h.bs.below hb z2, h.ts.below hb z3, h.d, h.d1, h.d2, h.h1, h.h2, h.h3, h.rd.keep hb, h.hR, grownBy_trans h.gr (grownBy_below hb _)⟩
theorem DlM.drew (h : DlM w wr R b3 g1 c1 g2 c2 y M) : DlM w wr.drew R b3 g1 c1 g2 c2 y M := h.below (Below.refl _ _).drew
theorem DlM.pick (h : DlM w wr R b3 g1 c1 g2 c2 y M) (hr : RdL w' R M') (hg : wr.grownBy w' (some R)) : DlM w w' R b3 g1 c1 g2 c2 y M' := by
  have a1 := h.hR
  have a2 := h.h1
  have a3 := h.h2
  have a4 := h.h3
  exact ⟨h.res.kept hg (by omega), h.box.kept hg (by omega), h.bs.kept hg (by simp; omega), h.ts.kept hg (by simp; omega), h.d, h.d1, h.d2, h.h1, h.h2, h.h3, hr, h.hR, grownBy_trans h.gr hg⟩
theorem grow_set {b o : Nat} {v : Value} (h : w.grownBy wr (some R)) (hb : w.heap.size ≤ b) : w.grownBy (wr.setCell ⟨b, o, none⟩ v) (some R) :=
  grow_new h (grownBy_setCell wr b o v) hb
/-- another line in the box -/
theorem DlM.line (h : DlM w wr R b3 g1 c1 g2 c2 y M) {p1 e1 p2 e2 : Nat} {z : Ln} (hl : LnO (w.heap.size + 1) wr (.agg #[.slice (some ⟨p1, 0, none⟩) z.n e1, .slice (some ⟨p2, 0, none⟩) z.m e2]) z) (hp : b3 ≠ p1 ∧ b3 ≠ p2) :
    DlM w ((wr.setCell ⟨b3, 0, none⟩ (.slice (some ⟨p1, 0, none⟩) z.n e1)).setCell ⟨b3, 1, none⟩ (.slice (some ⟨p2, 0, none⟩) z.m e2)) R b3 p1 e1 p2 e2 z M := by
  obtain ⟨g1', c1', g2', c2', q, o1, o2, hd, a1, a2⟩ := hl
  cases q
  have a3 := h.h3
  have a4 := h.hR
  refine ⟨(h.res.setOther (by dsimp only; omega) _).setOther (by dsimp only; omega) _, ?_, (o1.setOther (by dsimp only; exact fun e => hp.1 e.symm) _).setOther (by dsimp only; exact fun e => hp.1 e.symm) _, (o2.setOther (by dsimp only; exact fun e => hp.2 e.symm) _).setOther (by dsimp only; exact fun e => hp.2 e.symm) _, hd, hp.1, hp.2, by omega, by omega, a3, (h.rd.set (by omega)).set (by omega), a4, grow_set (grow_set h.gr (by omega)) (by omega)⟩
  have hb := (h.box.set 0 (.slice (some ⟨p1, 0, none⟩) z.n e1)).set 1 (.slice (some ⟨p2, 0, none⟩) z.m e2)
  simpa using hb
theorem DlM.setBk (h : DlM w wr R b3 g1 c1 g2 c2 y M) (k : Nat) (a : Int) (b c : Bool) :
    DlM w (((wr.setCell ⟨g1, k * 3, none⟩ (.int .i64 a)).setCell ⟨g1, k * 3 + 1, none⟩ (.bool b)).setCell ⟨g1, k * 3 + 2, none⟩ (.bool c)) R b3 g1 c1 g2 c2 { y with N := upd y.N k a, I := upd y.I k b, O := upd y.O k c } M := by
  have a1 := h.h1
  have a4 := h.hR
  have d := h.d
  have d1 := h.d1
  exact ⟨((h.res.setOther (by dsimp only; omega) _).setOther (by dsimp only; omega) _).setOther (by dsimp only; omega) _, ((h.box.setOther (by dsimp only; omega) _).setOther (by dsimp only; omega) _).setOther (by dsimp only; omega) _, h.bs.setBk k a b c,
    ((h.ts.setOther (by dsimp only; omega) _).setOther (by dsimp only; omega) _).setOther (by dsimp only; omega) _, h.d, h.d1, h.d2, h.h1, h.h2, h.h3, ((h.rd.set (by omega)).set (by omega)).set (by omega), a4, grow_set (grow_set (grow_set h.gr (by omega)) (by omega)) (by omega)⟩
theorem DlM.setTr (h : DlM w wr R b3 g1 c1 g2 c2 y M) (k : Nat) (a : Int) :
    DlM w (wr.setCell ⟨g2, k, none⟩ (.int .i64 a)) R b3 g1 c1 g2 c2 { y with T := upd y.T k a } M := by
  have a1 := h.h2
  have a4 := h.hR
  have d := h.d
  have d2 := h.d2
  exact ⟨h.res.setOther (by dsimp only; omega) _, h.box.setOther (by dsimp only; omega) _, h.bs.setOther (by dsimp only; omega) _, h.ts.setInt k a, h.d, h.d1, h.d2, h.h1, h.h2, h.h3, h.rd.set (by omega), a4, grow_set h.gr (by omega)⟩
/-- one train more -/
theorem DlM.push {wa : World} {g' c' : Nat} {a : Int} (h : DlM w wr R b3 g1 c1 g2 c2 y M) (HA : Own wa g' c' (y.m + 1) 1 3 (fun i => .int .i64 (if i = y.m then a else y.T i))) (hg : wr.grownBy wa (some g2)) (hd : (g' = g2 ∧ c' = c2) ∨ wr.heap.size < g') :
    DlM w (wa.setCell ⟨b3, 1, none⟩ (.slice (some ⟨g', 0, none⟩) (y.m + 1) c')) R b3 g1 c1 g' c' { y with m := y.m + 1, T := upd y.T y.m a } M := by
  have a1 := h.h1
  have a2 := h.h2
  have a3 := h.h3
  have a4 := h.hR
  have d := h.d
  have d1 := h.d1
  have d2 := h.d2
  obtain ⟨z0, z1, z2, z3⟩ := h.lts
  have e1 : g1 ≠ g' := by rcases hd with ⟨q, _⟩ | q <;> omega
  have e2 : b3 ≠ g' := by rcases hd with ⟨q, _⟩ | q <;> omega
  have e3 : w.heap.size < g' := by rcases hd with ⟨q, _⟩ | q <;> omega
  refine ⟨(h.res.kept hg (by omega)).setOther (by dsimp only; omega) _, ?_, (h.bs.kept hg (by simp; omega)).setOther (by dsimp only; omega) _, Own.setOther HA (by dsimp only; omega) _, e1, d1, e2, a1, e3, a3, (h.rd.kept hg (by omega)).set (by omega), a4, grow_set (grow_new h.gr hg (by omega)) (by omega)⟩
  have hb := (h.box.kept hg (by omega)).set 1 (.slice (some ⟨g', 0, none⟩) (y.m + 1) c')
  simpa using hb
end
def tri (n : Nat) (j : Nat) : Int := if j = 0 then -1 else if j = 1 then 2 * (n : Int) + 1 else 1
theorem tri_at (n : Nat) {j : Nat} (h : j < 3) : (#[Value.int .i64 (-1), .int .i64 (2 * (n : Int) + 1), .int .i64 1] : Array Value)[j]? = some (.int .i64 (tri n j)) := by
  match j, h with
  | 0, _ => rfl
  | 1, _ => rfl
  | 2, _ => rfl
/-- a drawn line -/
def DLn (R M : Nat) (w : World) (e : Ending) (w' : World) : Prop :=
  ∃ v x, e = .returned v ∧ LnO w.heap.size w' v x ∧ 1 ≤ x.n ∧ x.n ≤ 4 ∧ x.m ≤ 5 ∧ RdL w' R M ∧ w.grownBy w' (some R)
theorem DlM.done {w wr : World} {R b3 g1 c1 g2 c2 M M' : Nat} {y : Ln} (h : DlM w wr R b3 g1 c1 g2 c2 y M) (h1 : 1 ≤ y.n) (h2 : y.n ≤ 4) (h3 : y.m ≤ 5) (hM : M ≤ M') (u0 u1 : Value) :
    DLn R M' w (.returned (.agg #[.slice (some ⟨g1, 0, none⟩) y.n c1, .slice (some ⟨g2, 0, none⟩) y.m c2])) ((wr.setCell ⟨w.heap.size, 0, none⟩ u0).setCell ⟨w.heap.size, 1, none⟩ u1) := by
  have a1 := h.h1
  have a2 := h.h2
  have a4 := h.hR
  exact ⟨_, y, rfl, ⟨g1, c1, g2, c2, rfl, (h.bs.setOther (by dsimp only; omega) _).setOther (by dsimp only; omega) _, (h.ts.setOther (by dsimp only; omega) _).setOther (by dsimp only; omega) _, h.d, by omega, by omega⟩, h1, h2, h3, (((h.rd.set (by omega)).set (by omega)).mono hM), grow_set (grow_set h.gr (Nat.le_refl _)) (Nat.le_refl _)⟩
end Go.Proofs.Ytokddeoliieofaa
namespace Go.Proofs.Ytokddeoliieofaa
open Go.RowKit

/-- a move saves at most one -/
theorem lef_one {x : Ln} {s : Int} {l : ByteArray} (hv : vldL x = true) (ho : mvOk x s l = true) : lefS x x.n ≤ lefS (mvTo x s l) x.n + 1 := by
  obtain ⟨k, c, rfl, hk, rfl, hJ, hJ5, _⟩ := mv_is ho
  obtain ⟨h1, h2⟩ := lefT_mv ho hk
  have e1 := lefS_T hv x.n (Nat.le_refl _)
  have e2 : lefS (mvTo x k (chr c)) x.n = lefT (mvTo x k (chr c)) x.n := lefS_T (vld_mv hv ho) x.n (Nat.le_refl _)
  rw [e1, e2]
  rw [hJ] at hJ5 h1 h2
  suffices h : lefK (sk x k) (tk x k) ≤ lefK (nx (sk x k) c.toNat) (tk (mvTo x k (chr c)) k) + 1 by omega
  generalize tk (mvTo x k (chr c)) k = t' at *
  generalize tk x k = t at *
  rcases nx_cases hJ5 with ⟨a, b, d⟩ | ⟨a, b, d⟩ | ⟨a, b, d⟩ | ⟨a, b, d⟩ | ⟨a, b, d⟩ | ⟨a, b, d⟩ | ⟨a, b, d⟩
  all_goals
    rw [d] at h2 ⊢
    rw [a] at h2 ⊢
    simp only [lefK]
    (try split) <;> (try split) <;> omega
/-- a run of moves -/
def runL : Ln → List (Int × ByteArray) → Option Ln
  | x, [] => some x
  | x, z :: ms => (stepO x z.1 z.2).bind fun y => runL y ms
theorem runL_app : ∀ (a b : List (Int × ByteArray)) (x : Ln), runL x (a ++ b) = (runL x a).bind fun y => runL y b
  | [], b, x => rfl
  | z :: a, b, x => by
    show (stepO x z.1 z.2).bind (fun y => runL y (a ++ b)) = ((stepO x z.1 z.2).bind fun y => runL y a).bind fun y => runL y b
    cases stepO x z.1 z.2 with
    | none => rfl
    | some y => exact runL_app a b y
theorem runO_runL (x : Ln) (ms : List (Int × ByteArray)) : ∀ k, k ≤ ms.length → runO x (mvM ms) (mvS ms) k = runL x (ms.take k)
  | 0, _ => rfl
  | k + 1, h => by
    have hk : k < ms.length := by omega
    rw [List.take_succ_eq_append_getElem hk, runL_app]
    show (runO x (mvM ms) (mvS ms) k).bind _ = _
    rw [runO_runL x ms k (by omega)]
    congr 1
    funext y
    show stepO y (mvM ms k) (mvS ms k) = (stepO y ms[k].1 ms[k].2).bind fun y => some y
    unfold mvM mvS
    rw [List.getElem?_eq_getElem hk]
    show stepO y ms[k].1 ms[k].2 = _
    cases stepO y ms[k].1 ms[k].2 <;> rfl
theorem runO_all (x : Ln) (ms : List (Int × ByteArray)) : runO x (mvM ms) (mvS ms) ms.length = runL x ms := by
  rw [runO_runL x ms _ (Nat.le_refl _), List.take_length]
theorem near_step {x : Ln} {y : Int × ByteArray} (hv : vldL x = true) (h : nearM x = some y) : stepO x y.1 y.2 = some (mvTo x y.1 y.2) ∧ vldL (mvTo x y.1 y.2) = true ∧ lefS (mvTo x y.1 y.2) (mvTo x y.1 y.2).n + 1 = lefS x x.n := by
  obtain ⟨h1, h2⟩ := near_less h
  have h3 := lef_one hv h1
  refine ⟨by unfold stepO; rw [h1]; rfl, vld_mv hv h1, ?_⟩
  have e : (mvTo x y.1 y.2).n = x.n := rfl
  rw [e] at h2 ⊢
  omega
/-- the run of LineFinish's moves: what is behind k of them -/
theorem fin_run : ∀ (q : Nat) (x : Ln), vldL x = true → lefS x x.n = q → (finX x).length = q ∧ ∀ k, k ≤ q → ∃ y, runL x ((finX x).take k) = some y ∧ vldL y = true ∧ lefS y y.n = ((q - k : Nat) : Int) ∧ finX y = (finX x).drop k ∧ y.n = x.n ∧ y.m = x.m
  | 0, x, hv, h => by
    have e : finX x = [] := finX_done (by omega)
    refine ⟨by rw [e]; rfl, fun k hk => ?_⟩
    obtain rfl : k = 0 := by omega
    exact ⟨x, by rw [e]; rfl, hv, by rw [h], by rw [e]; rfl, rfl, rfl⟩
  | q + 1, x, hv, h => by
    obtain ⟨z, hz, _⟩ := nearM_some hv (by omega)
    obtain ⟨h1, h2, h3⟩ := near_step hv hz
    have ih := fin_run q (mvTo x z.1 z.2) h2 (by omega)
    have e : finX x = z :: finX (mvTo x z.1 z.2) := finX_step (by omega) hz
    refine ⟨by rw [e, List.length_cons, ih.1], fun k hk => ?_⟩
    match k with
    | 0 => exact ⟨x, by rw [List.take_zero]; rfl, hv, by rw [h]; simp, by rw [List.drop_zero], rfl, rfl⟩
    | k + 1 =>
      obtain ⟨y, g1, g2, g3, g4, g5, g6⟩ := ih.2 k (by omega)
      refine ⟨y, ?_, g2, by rw [g3]; congr 1 <;> omega, by rw [e, List.drop_succ_cons]; exact g4, g5, g6⟩
      rw [e, List.take_succ_cons]
      show (stepO x z.1 z.2).bind _ = _
      rw [h1]
      exact g1
theorem lefS_nn (x : Ln) : ∃ q : Nat, lefS x x.n = q := ⟨(lefS x x.n).toNat, by have := (lefS_bd x x.n).1; omega⟩
theorem lefT_zero {x : Ln} : ∀ n, lefT x n = 0 → ∀ k, k < n → lefK (sk x k) (tk x k) = 0
  | 0, _, k, hk => by omega
  | n + 1, h, k, hk => by
    have h1 := lefK_pos (sk x n) (tk x n)
    have h2 : 0 ≤ lefT x n := by
      have : ∀ n, 0 ≤ lefT x n := fun n => by
        induction n with
        | zero => exact Int.le_refl _
        | succ n ih => have := lefK_pos (sk x n) (tk x n); simp only [lefT]; omega
      exact this n
    simp only [lefT] at h
    rcases Nat.lt_or_ge k n with h3 | h3
    · exact lefT_zero n (by omega) k h3
    · obtain rfl : k = n := by omega
      omega
theorem lefT_nil {x : Ln} : ∀ n, (∀ k, k < n → lefK (sk x k) (tk x k) = 0) → lefT x n = 0
  | 0, _ => rfl
  | n + 1, h => by
    simp only [lefT]
    rw [lefT_nil n (fun k hk => h k (by omega)), h n (by omega)]
    rfl
theorem lefK_zero {s t : Nat} (h : lefK s t = 0) : s = 0 ∧ t = 0 := by
  unfold lefK at h
  split at h <;> (try split at h) <;> omega
theorem nrm_sk {x : Ln} {k : Nat} (h : nrmB x k = true) : sk x k = 0 := by
  unfold nrmB at h
  simp only [Bool.and_eq_true, decide_eq_true_eq, Bool.not_eq_true'] at h
  obtain ⟨h1, h2, h3⟩ := h
  unfold sk
  rw [h1, h2, h3]
  rfl
theorem leA_none {f : Nat → Int} {p : Int} : ∀ m, (∀ i, i < m → ¬ f i ≤ p) → leA f p m = 0
  | 0, _ => rfl
  | m + 1, h => by
    simp only [leA]
    rw [leA_none m (fun i hi => h i (by omega)), if_neg (h m (by omega))]
/-- a valid line is done when no move is left -/
theorem done_left {x : Ln} (hv : vldL x = true) : donL x = decide (lefS x x.n = 0) := by
  have hb := vldL_true hv
  rw [donL_dn4, hv, Bool.true_and, lefS_T hv x.n (Nat.le_refl _), Bool.eq_iff_iff, decide_eq_true_eq]
  unfold dn4
  rw [Bool.and_eq_true, allB_true, allB_true]
  unfold atEnd
  simp only [decide_eq_true_eq]
  constructor
  · rintro ⟨h1, h2⟩
    refine lefT_nil x.n (fun k hk => ?_)
    have e : tk x k = 0 := leA_none x.m (fun i hi => by rw [h2 i hi]; omega)
    rw [nrm_sk (h1 k hk), e]
    rfl
  · intro h
    have hz := lefT_zero x.n h
    refine ⟨fun k hk => ?_, fun i hi => ?_⟩
    · have h0 := (lefK_zero (hz k hk)).1
      have hs := sk_N hv hk
      have hi := sk_I hv hk
      rw [h0] at hs hi
      unfold nrmB
      rw [hs.1, hs.2, hi]
      rfl
    · have ht := (trOk_true.1 (hb.2.2.2.2.1 i hi)).1
      have hn1 : 0 < x.n := by omega
      have h0 := lefK_zero (hz (x.n - 1) (by omega))
      have h1 : ¬ x.T i ≤ 2 * ((x.n - 1 : Nat) : Int) := fun hle => by
        have := leA_pos hle x.m hi
        have h2 : leA x.T (2 * ((x.n - 1 : Nat) : Int)) x.m = 0 := h0.2
        omega
      have h2 : x.T i ≠ 2 * ((x.n - 1 : Nat) : Int) + 1 := fun he => by
        have h3 := cntA_pos he x.m hi
        have h4 := cnOk_true.1 (hb.2.2.2.2.2 (x.n - 1) (by omega))
        rw [sk_I hv (by omega), h0.1] at h4
        rw [h4] at h3
        simp at h3
      omega
theorem lefO_v {x : Ln} (hv : vldL x = true) : lefO x = lefS x x.n := if_pos hv
end Go.Proofs.Ytokddeoliieofaa
namespace Go.Proofs.Ytokddeoliieofaa
open Go.RowKit

/-- a drawn line, all else as it was -/
def DrL (w : World) (e : Ending) (w' : World) : Prop :=
  ∃ v x, e = .returned v ∧ LnO w.heap.size w' v x ∧ 1 ≤ x.n ∧ x.n ≤ 4 ∧ x.m ≤ 5 ∧ Below w.heap.size w w'
set_option maxHeartbeats 1000000 in
theorem drawLNew_any (ao : Option Addr) (n c : Nat) (w : World) (hnc : n ≤ c) (hn : n ≤ 9223372036854775807) (hB : BSl w ao n) :
    Calls Try.prog 55 #[.slice ao n c] w fun e w' => ∃ a t : Nat, e = .returned (.tuple #[.int .i64 a, .int .i64 ((t : Int) - 1)]) ∧ a < 7 ∧ t < 8 ∧ Below w.heap.size w w' := by
  have HBS := Lib.hid hB
  clear hB
  go_enter Try.func55, Try.ntmps55
  go_wp2_with fail
  refine (open_any ao n c _ hn hnc HBS.out).mono ?_
  rintro e w1 ⟨R, rfl, hR, hr1, hb1⟩
  have HB1 := Lib.hid hb1
  have HR1 := Lib.hid hr1
  have hz1 : w.heap.size ≤ w1.heap.size := hb1.size
  clear hb1 hr1
  go_wp2_with fail
  refine (pickN_any R 0 7 _ (by omega) (by omega) HR1.out).mono ?_
  rintro e w2 ⟨a, rfl, ha, hr2, hg2⟩
  have HR2 := Lib.hid hr2
  have HB2 := Lib.hid (HB1.out.trans (below_of_grown hg2 (by omega) (by omega)))
  have hz2 : w1.heap.size ≤ w2.heap.size := hg2.size
  clear hr2 hg2
  go_wp2_with fail
  refine (pickN_any R (0 + 1) 8 _ (by omega) (by omega) HR2.out).mono ?_
  rintro e w3 ⟨t, rfl, ht, hr3, hg3⟩
  have HB3 := Lib.hid (HB2.out.trans (below_of_grown hg3 (by omega) (by omega)))
  clear hr3 hg3
  have hw : IntKind.i64.wrap ((t : Int) - 1) = (t : Int) - 1 := IntWalk.i64_in _ (by omega)
  go_wp2_with fail
  go_ret2
  exact ⟨a, t, rfl, ha, ht, HB3.out⟩

set_option linter.unusedSimpArgs false in
set_option maxHeartbeats 1000000 in
theorem sameLine_same (bb bo cb tb tu ct bb' bo' cb' tb' tu' ct' : Nat) (x : Ln) (w : World) (hn : x.n ≤ 1000000000000) (hm : x.m ≤ 1000000000000) (hbk : BkC w bb bo x.n x.N x.I x.O) (hic : IC w tb tu x.m x.T) (hbk' : BkC w bb' bo' x.n x.N x.I x.O) (hic' : IC w tb' tu' x.m x.T) :
    Calls Try.prog 58 #[.agg #[.slice (some ⟨bb, bo, none⟩) x.n cb, .slice (some ⟨tb, tu, none⟩) x.m ct], .agg #[.slice (some ⟨bb', bo', none⟩) x.n cb', .slice (some ⟨tb', tu', none⟩) x.m ct']] w fun e w' => e = .returned (.bool true) ∧ Below w.heap.size w w' := by
  have HB0 : Hid (Below w.heap.size w ((w.alloc (.cells #[.slice (some ⟨bb, bo, none⟩) x.n cb, .slice (some ⟨tb, tu, none⟩) x.m ct] 75)).alloc (.cells #[.slice (some ⟨bb', bo', none⟩) x.n cb', .slice (some ⟨tb', tu', none⟩) x.m ct'] 75))) := (below_all _ _).alloc (by simp) _
  have HA0 : Hid (Bx ((w.alloc (.cells #[.slice (some ⟨bb, bo, none⟩) x.n cb, .slice (some ⟨tb, tu, none⟩) x.m ct] 75)).alloc (.cells #[.slice (some ⟨bb', bo', none⟩) x.n cb', .slice (some ⟨tb', tu', none⟩) x.m ct'] 75)) w.heap.size 75 #[.slice (some ⟨bb, bo, none⟩) x.n cb, .slice (some ⟨tb, tu, none⟩) x.m ct]) := (Bx.new _ _ _).alloc _
  have HC0 : Hid (Bx ((w.alloc (.cells #[.slice (some ⟨bb, bo, none⟩) x.n cb, .slice (some ⟨tb, tu, none⟩) x.m ct] 75)).alloc (.cells #[.slice (some ⟨bb', bo', none⟩) x.n cb', .slice (some ⟨tb', tu', none⟩) x.m ct'] 75)) (w.heap.size + 1) 75 #[.slice (some ⟨bb', bo', none⟩) x.n cb', .slice (some ⟨tb', tu', none⟩) x.m ct']) := Bx.newAt (by simp)
  have HK : Hid (∀ w', Below w.heap.size w w' → BkC w' bb bo x.n x.N x.I x.O) := fun w' hb => hbk.keep hb
  have HK' : Hid (∀ w', Below w.heap.size w w' → BkC w' bb' bo' x.n x.N x.I x.O) := fun w' hb => hbk'.keep hb
  have HSI : Hid (∀ w', Below w.heap.size w w' → Calls Try.prog 15 #[.slice (some ⟨tb, tu, none⟩) x.m ct, .slice (some ⟨tb', tu', none⟩) x.m ct'] w' fun e w2 => e = .returned (.bool true) ∧ Below w'.heap.size w' w2) := fun w' hb =>
    (sameInts_any tb tu x.m ct tb' tu' x.m ct' x.T x.T w' (by omega) (by omega) (hic.keep hb) (hic'.keep hb)).mono fun e w2 ⟨h1, h2⟩ => ⟨by rw [h1, eqSl_true.2 ⟨rfl, fun _ _ => rfl⟩], below_dr h2 _⟩
  clear hbk hic hbk' hic'
  go_enter Try.func58, Try.ntmps58
  have hac := HA0.out.cell
  have hcc := HC0.out.cell
  go_wp2_with fail
  generalize (w.alloc (.cells #[.slice (some ⟨bb, bo, none⟩) x.n cb, .slice (some ⟨tb, tu, none⟩) x.m ct] 75)).alloc (.cells #[.slice (some ⟨bb', bo', none⟩) x.n cb', .slice (some ⟨tb', tu', none⟩) x.m ct'] 75) = W0 at *
  refine (HSI.out _ HB0.out).mono ?_
  rintro e w1 ⟨rfl, hb1⟩
  have HA1 := Lib.hid (HA0.out.below hb1 HA0.out.lt)
  have HC1 := Lib.hid (HC0.out.below hb1 HC0.out.lt)
  have HB1 := Lib.hid (HB0.out.trans (hb1.mono HB0.out.size))
  clear hb1 hac hcc
  have hac := HA1.out.cell
  have hcc := HC1.out.cell
  go_wp2_with fail
  clear hac hcc
  go_loopw [5] (fun i wr => ∃ k : Nat, k ≤ x.n ∧ i = .int .i64 k ∧ Hid (Below w1.heap.size w1 wr)) (fun i _ => x.n - (intOf i).toNat)
  case atStart => exact ⟨0, Nat.zero_le _, rfl, Below.refl _ _⟩
  case round =>
    obtain ⟨k, hk, rfl, HB⟩ := hrel
    have hac := (HA1.out.below HB.out HA1.out.lt).cell
    have hcc := (HC1.out.below HB.out HC1.out.lt).cell
    have HBw := Lib.hid (HB1.out.trans (HB.out.mono HB1.out.size))
    by_cases hlt : k < x.n
    · have hck := (HK.out _ HBw.out).at k hlt
      have hdk := (HK'.out _ HBw.out).at k hlt
      generalize x.N k = xn at *
      generalize x.I k = xi at *
      generalize x.O k = xo at *
      go_wp2_with fail
      refine wp_region_held_drew (S := (fun w' => (w'.cell? ⟨w.heap.size, 0, none⟩ = some (.slice (some ⟨bb, bo, none⟩) x.n cb) ∧ w'.cell? ⟨w.heap.size + 1, 0, none⟩ = some (.slice (some ⟨bb', bo', none⟩) x.n cb')) ∧ (w'.cell? ⟨bb, bo + k * 3, none⟩ = some (.int .i64 xn) ∧ w'.cell? ⟨bb, bo + k * 3 + 1, none⟩ = some (.bool xi) ∧ w'.cell? ⟨bb, bo + k * 3 + 2, none⟩ = some (.bool xo)) ∧ (w'.cell? ⟨bb', bo' + k * 3, none⟩ = some (.int .i64 xn) ∧ w'.cell? ⟨bb', bo' + k * 3 + 1, none⟩ = some (.bool xi) ∧ w'.cell? ⟨bb', bo' + k * 3 + 2, none⟩ = some (.bool xo)))) (by kernel_rfl) ?_ (fun hHeld => ?_)
      · try dsimp only
        go_keep
      refine wpAnyH_take (i := 0) (oi := ?_) (v := ?_) ?_ (by kernel_rfl) (by kernel_rfl) (by kernel_rfl) ?_ ?_ (by assumption) ?_
      rotate_left 2
      · simp only [List.getElem?_toArray, List.getElem?_cons_succ, List.getElem?_cons_zero]; rfl
      · exact fun _ _ _ h => h
      · first
          | (refine Or.inr ⟨?_, ?_⟩ <;> rfl)
          | (refine Or.inl ⟨?_, ?_⟩; · rfl
             intro w hSw; (try dsimp only at hSw); go_simp; (try with_reducible rfl); done)
      try simp only [Act.put, List.setIfInBounds_toArray, List.set_cons_zero, List.set_cons_succ]
      refine wpAnyH_take (i := 1) (oi := ?_) (v := ?_) ?_ (by kernel_rfl) (by kernel_rfl) (by kernel_rfl) ?_ ?_ (by assumption) ?_
      rotate_left 2
      · simp only [List.getElem?_toArray, List.getElem?_cons_succ, List.getElem?_cons_zero]; rfl
      · exact fun _ _ _ h => h
      · first
          | (refine Or.inr ⟨?_, ?_⟩ <;> rfl)
          | (refine Or.inl ⟨?_, ?_⟩; · rfl
             intro w hSw; (try dsimp only at hSw); go_simp; (try with_reducible rfl); done)
      try simp only [Act.put, List.setIfInBounds_toArray, List.set_cons_zero, List.set_cons_succ]
      refine wpAnyH_take (i := 2) (oi := ?_) (v := ?_) ?_ (by kernel_rfl) (by kernel_rfl) (by kernel_rfl) ?_ ?_ (by assumption) ?_
      rotate_left 2
      · simp only [List.getElem?_toArray, List.getElem?_cons_succ, List.getElem?_cons_zero]; rfl
      · exact fun _ _ _ h => h
      · first
          | (refine Or.inr ⟨?_, ?_⟩ <;> rfl)
          | (refine Or.inl ⟨?_, ?_⟩; · rfl
             intro w hSw; (try dsimp only at hSw); go_simp; (try with_reducible rfl); done)
      try simp only [Act.put, List.setIfInBounds_toArray, List.set_cons_zero, List.set_cons_succ]
      refine wpAnyH_take (i := 3) (oi := ?_) (v := ?_) ?_ (by kernel_rfl) (by kernel_rfl) (by kernel_rfl) ?_ ?_ (by assumption) ?_
      rotate_left 2
      · simp only [List.getElem?_toArray, List.getElem?_cons_succ, List.getElem?_cons_zero]; rfl
      · exact fun _ _ _ h => h
      · first
          | (refine Or.inr ⟨?_, ?_⟩ <;> rfl)
          | (refine Or.inl ⟨?_, ?_⟩; · rfl
             intro w hSw; (try dsimp only at hSw); go_simp; (try with_reducible rfl); done)
      try simp only [Act.put, List.setIfInBounds_toArray, List.set_cons_zero, List.set_cons_succ]
      refine wpAnyH_take (i := 4) (oi := ?_) (v := ?_) ?_ (by kernel_rfl) (by kernel_rfl) (by kernel_rfl) ?_ ?_ (by assumption) ?_
      rotate_left 2
      · simp only [List.getElem?_toArray, List.getElem?_cons_succ, List.getElem?_cons_zero]; rfl
      · exact fun _ _ _ h => h
      · first
          | (refine Or.inr ⟨?_, ?_⟩ <;> rfl)
          | (refine Or.inl ⟨?_, ?_⟩; · rfl
             intro w hSw; (try dsimp only at hSw); go_simp; (try with_reducible rfl); done)
      try simp only [Act.put, List.setIfInBounds_toArray, List.set_cons_zero, List.set_cons_succ]
      refine wpAnyH_take (i := 5) (oi := ?_) (v := ?_) ?_ (by kernel_rfl) (by kernel_rfl) (by kernel_rfl) ?_ ?_ (by assumption) ?_
      rotate_left 2
      · simp only [List.getElem?_toArray, List.getElem?_cons_succ, List.getElem?_cons_zero]; rfl
      · exact fun _ _ _ h => h
      · first
          | (refine Or.inr ⟨?_, ?_⟩ <;> rfl)
          | (refine Or.inl ⟨?_, ?_⟩; · rfl
             intro w hSw; (try dsimp only at hSw); go_simp; (try with_reducible rfl); done)
      try simp only [Act.put, List.setIfInBounds_toArray, List.set_cons_zero, List.set_cons_succ]
      refine wpAnyH_take (i := 6) (oi := ?_) (v := ?_) ?_ (by kernel_rfl) (by kernel_rfl) (by kernel_rfl) ?_ ?_ (by assumption) ?_
      rotate_left 2
      · simp only [List.getElem?_toArray, List.getElem?_cons_succ, List.getElem?_cons_zero]; rfl
      · exact fun _ _ _ h => h
      · first
          | (refine Or.inr ⟨?_, ?_⟩ <;> rfl)
          | (refine Or.inl ⟨?_, ?_⟩; · rfl
             intro w hSw; (try dsimp only at hSw); go_simp; (try with_reducible rfl); done)
      try simp only [Act.put, List.setIfInBounds_toArray, List.set_cons_zero, List.set_cons_succ]
      refine wpAnyH_take (i := 7) (oi := ?_) (v := ?_) ?_ (by kernel_rfl) (by kernel_rfl) (by kernel_rfl) ?_ ?_ (by assumption) ?_
      rotate_left 2
      · simp only [List.getElem?_toArray, List.getElem?_cons_succ, List.getElem?_cons_zero]; rfl
      · exact fun _ _ _ h => h
      · first
          | (refine Or.inr ⟨?_, ?_⟩ <;> rfl)
          | (refine Or.inl ⟨?_, ?_⟩; · rfl
             intro w hSw; (try dsimp only at hSw); go_simp; (try with_reducible rfl); done)
      try simp only [Act.put, List.setIfInBounds_toArray, List.set_cons_zero, List.set_cons_succ]
      refine wpAnyH_take (i := 8) (oi := ?_) (v := ?_) ?_ (by kernel_rfl) (by kernel_rfl) (by kernel_rfl) ?_ ?_ (by assumption) ?_
      rotate_left 2
      · simp only [List.getElem?_toArray, List.getElem?_cons_succ, List.getElem?_cons_zero]; rfl
      · exact fun _ _ _ h => h
      · first
          | (refine Or.inr ⟨?_, ?_⟩ <;> rfl)
          | (refine Or.inl ⟨?_, ?_⟩; · rfl
             intro w hSw; (try dsimp only at hSw); go_simp; (try with_reducible rfl); done)
      try simp only [Act.put, List.setIfInBounds_toArray, List.set_cons_zero, List.set_cons_succ]
      refine wpAnyH_take (i := 9) (oi := ?_) (v := ?_) ?_ (by kernel_rfl) (by kernel_rfl) (by kernel_rfl) ?_ ?_ (by assumption) ?_
      rotate_left 2
      · simp only [List.getElem?_toArray, List.getElem?_cons_succ, List.getElem?_cons_zero]; rfl
      · exact fun _ _ _ h => h
      · first
          | (refine Or.inr ⟨?_, ?_⟩ <;> rfl)
          | (refine Or.inl ⟨?_, ?_⟩; · rfl
             intro w hSw; (try dsimp only at hSw); go_simp; (try with_reducible rfl); done)
      try simp only [Act.put, List.setIfInBounds_toArray, List.set_cons_zero, List.set_cons_succ]
      refine wpAnyH_take (i := 10) (oi := ?_) (v := ?_) ?_ (by kernel_rfl) (by kernel_rfl) (by kernel_rfl) ?_ ?_ (by assumption) ?_
      rotate_left 2
      · simp only [List.getElem?_toArray, List.getElem?_cons_succ, List.getElem?_cons_zero]; rfl
      · exact fun _ _ _ h => h
      · first
          | (refine Or.inr ⟨?_, ?_⟩ <;> rfl)
          | (refine Or.inl ⟨?_, ?_⟩; · rfl
             intro w hSw; (try dsimp only at hSw); go_simp; (try with_reducible rfl); done)
      try simp only [Act.put, List.setIfInBounds_toArray, List.set_cons_zero, List.set_cons_succ]
      refine wpAnyH_done (by kernel_rfl) ?_ _
      go_wp2_with fail
      go_roundw
      case rel => exact ⟨k + 1, by omega, by go_num, HB.out.drew⟩
      case measure => simp [intOf]; omega
    · obtain rfl : k = x.n := by omega
      go_wp2_with fail
      go_ret
      exact ⟨rfl, HBw.out⟩
end Go.Proofs.Ytokddeoliieofaa
namespace Go.Proofs.Ytokddeoliieofaa
open Go.RowKit

/-- a line in a box, rows of its own -/
structure LbM (w wr : World) (b g1 c1 g2 c2 : Nat) (x : Ln) : Prop where
  box : Bx wr b 75 #[.slice (some ⟨g1, 0, none⟩) x.n c1, .slice (some ⟨g2, 0, none⟩) x.m c2]
  bs : Own wr g1 c1 x.n 3 46 (bkF x.N x.I x.O)
  ts : Own wr g2 c2 x.m 1 3 (fun i => .int .i64 (x.T i))
  bl : Below w.heap.size w wr
  hn : x.n ≤ 1000000
  hm : x.m ≤ 1000000
section
variable {w wr w' : World} {b g1 c1 g2 c2 : Nat} {x : Ln}
theorem LbM.below (h : LbM w wr b g1 c1 g2 c2 x) (hb : Below wr.heap.size wr w') : LbM w w' b g1 c1 g2 c2 x :=
  ⟨h.box.below hb h.box.lt, h.bs.below hb h.bs.lt, h.ts.below hb h.ts.lt, h.bl.trans (hb.mono h.bl.size), h.hn, h.hm⟩
theorem LbM.drew (h : LbM w wr b g1 c1 g2 c2 x) : LbM w wr.drew b g1 c1 g2 c2 x := h.below (Below.refl _ _).drew
theorem LbM.alloc (h : LbM w wr b g1 c1 g2 c2 x) (o : Obj) : LbM w (wr.alloc o) b g1 c1 g2 c2 x := h.below (below_all _ _)
theorem LbM.new {z : Nat} (hb : Below w.heap.size w wr) (h : LnO z wr (.agg #[.slice (some ⟨g1, 0, none⟩) x.n c1, .slice (some ⟨g2, 0, none⟩) x.m c2]) x) (hn : x.n ≤ 1000000) (hm : x.m ≤ 1000000) :
    LbM w (wr.alloc (.cells #[.slice (some ⟨g1, 0, none⟩) x.n c1, .slice (some ⟨g2, 0, none⟩) x.m c2] 75)) wr.heap.size g1 c1 g2 c2 x := by
  obtain ⟨_, _, _, _, e, h1, h2, _⟩ := h
  cases e
  exact ⟨Bx.new _ _ _, h1.alloc _, h2.alloc _, hb.alloc hb.size _, hn, hm⟩
/-- a line that was put into a box of its own -/
theorem LbM.put {z q : Nat} {V : World} (hl : LnO z V (.agg #[.slice (some ⟨g1, 0, none⟩) x.n c1, .slice (some ⟨g2, 0, none⟩) x.m c2]) x) (hx : Bx V q 75 #[.slice (some ⟨g1, 0, none⟩) x.n c1, .slice (some ⟨g2, 0, none⟩) x.m c2]) (hb : Below w.heap.size w V) (hn : x.n ≤ 1000000) (hm : x.m ≤ 1000000) :
    LbM w V q g1 c1 g2 c2 x := by
  obtain ⟨_, _, _, _, e, h1, h2, _⟩ := hl
  cases e
  exact ⟨hx, h1, h2, hb, hn, hm⟩
/-- moves handed back, by their reading -/
def MvV (w : World) (v : Value) (ms : List (Int × ByteArray)) : Prop := MLs w v ms.length (mvM ms) (mvS ms)
theorem MvV.keep {v : Value} {ms : List (Int × ByteArray)} (h : MvV w v ms) (hb : Below w.heap.size w w') : MvV w' v ms := MLs.keep h hb
theorem MvV.shape {v : Value} {ms : List (Int × ByteArray)} (h : MvV w v ms) : ∃ ao c, v = .slice ao ms.length c := MLs.shape h
theorem RowMs.vals {z : Nat} {v : Value} {ms : List (Int × ByteArray)} {g : Option Nat} (h : RowMs z w v ms g) : MvV w v ms := h.row.1.reads
theorem MvV.at {ao : Option Addr} {c i : Nat} {ms : List (Int × ByteArray)} (h : MvV w (.slice ao ms.length c) ms) (hi : i < ms.length) : ∃ bm mo, ao = some ⟨bm, mo, none⟩ ∧ w.cell? ⟨bm, mo + i * 2, none⟩ = some (.int .i64 (ms[i]).1) ∧ w.cell? ⟨bm, mo + i * 2 + 1, none⟩ = some (.string (ms[i]).2) := by
  rcases h with ⟨bm, mo, c', e, h⟩ | ⟨h0, _⟩
  · cases e
    obtain ⟨h1, h2⟩ := h i hi
    refine ⟨bm, mo, rfl, ?_, ?_⟩
    · rw [h1]; unfold mvM; rw [List.getElem?_eq_getElem hi]; rfl
    · rw [h2]; unfold mvS; rw [List.getElem?_eq_getElem hi]; rfl
  · omega
/-- moves handed back in a row -/
def MvA (w : World) (v : Value) (ms : List (Int × ByteArray)) : Prop := ∃ b o c, v = .slice (some ⟨b, o, none⟩) ms.length c ∧ ms.length ≤ c ∧ MvsC w b o ms.length (mvM ms) (mvS ms)
theorem MvA.keep {v : Value} {ms : List (Int × ByteArray)} (h : MvA w v ms) (hb : Below w.heap.size w w') : MvA w' v ms := by
  obtain ⟨b, o, c, e, hc, h⟩ := h
  exact ⟨b, o, c, e, hc, h.keep hb⟩
theorem MvA.vals {v : Value} {ms : List (Int × ByteArray)} (h : MvA w v ms) : MvV w v ms := by
  obtain ⟨b, o, c, e, _, h⟩ := h
  exact .inl ⟨b, o, c, e, h⟩
theorem RowMs.adr {z g : Nat} {v : Value} {ms : List (Int × ByteArray)} (h : RowMs z w v ms (some g)) : MvA w v ms := by
  rcases h with ⟨b, c, e, rfl, hz, ho⟩ | ⟨h, _⟩
  · exact ⟨b, 0, c, rfl, ho.1, MvsC.of_own ho⟩
  · cases h
theorem LbM.finI (h : LbM w wr b g1 c1 g2 c2 x) : Calls Try.prog 59 #[.agg #[.slice (some ⟨g1, 0, none⟩) x.n c1, .slice (some ⟨g2, 0, none⟩) x.m c2]] wr fun e W' => (∃ v, e = .returned (.tuple #[v, .bool (vldL x)]) ∧ MvA W' v (fnL x)) ∧ Below wr.heap.size wr W' :=
  (lineFinish_any g1 0 c1 g2 0 c2 x wr (by have := h.hn; omega) (by have := h.hm; omega) (BkC.of_own h.bs) (IC.of_own h.ts)).mono fun _ _ ⟨⟨v, _, h1, h2⟩, h3⟩ => ⟨⟨v, h1, h2.adr⟩, h3⟩
theorem LbM.nle (h : LbM w wr b g1 c1 g2 c2 x) : x.n ≤ 1000000 := h.hn
end
/-- the moves of a valid line can be done -/
theorem lmL_ok {x : Ln} {z : Int × ByteArray} (h : z ∈ lmL x) : vldL x = true ∧ mvOk x z.1 z.2 = true := by
  have hv : vldL x = true := by
    cases hv : vldL x
    · unfold lmL at h; rw [hv] at h; exact absurd h (by simp)
    · rfl
  rw [← spL_lmL] at h
  exact ⟨hv, spL_ok h⟩
theorem lmL_stO {x : Ln} {z : Int × ByteArray} (h : z ∈ lmL x) : stO x z.1 z.2 = some (mvTo x z.1 z.2) := by
  obtain ⟨h1, h2⟩ := lmL_ok h
  unfold stO stepO
  rw [h1, h2]
  rfl
theorem LrR.some {o : Option Ln} {y : Ln} {w w' : World} {e : Ending} (h : LrR o w e w') (ho : o = some y) : ∃ v, e = .returned (.tuple #[v, .bool true]) ∧ LnO w.heap.size w' v y ∧ Below w.heap.size w w' := by
  obtain ⟨hb, ⟨h1, _⟩ | ⟨y', v, h1, h2, h3⟩⟩ := h
  · rw [ho] at h1; cases h1
  · rw [ho] at h1; cases h1; exact ⟨v, h2, h3, hb⟩
end Go.Proofs.Ytokddeoliieofaa
