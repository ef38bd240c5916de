/-
  Parts of the proof: Vc Vd Vf Jk Jl. No condition.
-/
import Derived.Lib.ItoaLen
import Derived.Test.YtlkdmpfifpkpaaaGreatDoorV19
namespace Go.Proofs.YtlkdmpfifpkpaaaGreatDoor
open Go.RowKit
def newL (n m : Nat) : Ln := { n := n, N := fun _ => 0, I := fun _ => false, O := fun _ => false, m := m, T := fun _ => 0 }
def nwO (n t : Int) : Option Ln := if inB n 1 5 && inB t 0 5 then some (newL n.toNat t.toNat) else none
theorem nwO_yes {n t : Nat} (h1 : inB n 1 5 = true) (h2 : inB t 0 5 = true) : nwO n t = some (newL n t) := by
 unfold nwO
 rw [h1, h2]
 rfl
theorem nwO_n {n t : Int} (h1 : inB n 1 5 = false) : nwO n t = none := by
 unfold nwO
 rw [h1]
 rfl
theorem nwO_t {n t : Int} (h1 : inB t 0 5 = false) : nwO n t = none := by
 unfold nwO
 rw [h1, Bool.and_false]
 rfl
theorem nw_done {w wr : World} {g1 g2 n m : Nat} (h1 : Own wr g1 n n 3 76 (bkF (newL n m).N (newL n m).I (newL n m).O)) (h2 : Own wr g2 m m 1 3 (fun _ => .int .i64 0)) (hg : g1 ≠ g2) (h3 : w.heap.size + 1 ≤ g1) (h4 : w.heap.size + 1 ≤ g2) (hb : Below w.heap.size w wr) (n' t' : Int) (ho : nwO n' t' = some (newL n m)) :
    LrR (nwO n' t') w (.returned (.tuple #[.agg #[.slice (some ⟨g1, 0, none⟩) n n, .slice (some ⟨g2, 0, none⟩) m m], .bool true])) wr :=
  ⟨hb, .inr ⟨newL n m, _, ho, rfl, g1, n, g2, m, rfl, h1, h2, hg, by omega, by omega⟩⟩
theorem nw_two {w W : World} {z : Nat} (hz : z = W.heap.size) (hB : Below w.heap.size w W) (hs : w.heap.size + 1 ≤ W.heap.size) (n m : Nat) (hn : n ≤ 5) (hm : m ≤ 5) :
    Own ((W.alloc (.cells (madeCells #[.int .i64 0, .bool false, .bool false] (n * 3)) 76)).alloc (.cells (madeCells #[.int .i64 0] m) 3)) z n n 3 76 (bkF (newL n m).N (newL n m).I (newL n m).O) ∧
    Own ((W.alloc (.cells (madeCells #[.int .i64 0, .bool false, .bool false] (n * 3)) 76)).alloc (.cells (madeCells #[.int .i64 0] m) 3)) (z + 1) m m 1 3 (fun _ => .int .i64 0) ∧
    Below w.heap.size w ((W.alloc (.cells (madeCells #[.int .i64 0, .bool false, .bool false] (n * 3)) 76)).alloc (.cells (madeCells #[.int .i64 0] m) 3)) := by
  subst hz
  refine ⟨(own_bk0 W n (by omega)).alloc _, ?_, (hB.alloc (by omega) _).alloc (by simp; omega) _⟩
  have h := own_full1 (W.alloc (.cells (madeCells #[.int .i64 0, .bool false, .bool false] (n * 3)) 76)) (.int .i64 0) m 3 (by unfold maxLen; omega)
  rw [World.size_alloc] at h
  exact h
theorem nw_two' {w W : World} {z : Nat} (hz : z = W.heap.size) (hB : Below w.heap.size w W) (hs : w.heap.size + 1 ≤ W.heap.size) (n m : Nat) (hn : n ≤ 5) (hm : m ≤ 5) :
    Own ((W.alloc (.cells (madeCells #[.int .i64 0] m) 3)).alloc (.cells (madeCells #[.int .i64 0, .bool false, .bool false] (n * 3)) 76)) (z + 1) n n 3 76 (bkF (newL n m).N (newL n m).I (newL n m).O) ∧
    Own ((W.alloc (.cells (madeCells #[.int .i64 0] m) 3)).alloc (.cells (madeCells #[.int .i64 0, .bool false, .bool false] (n * 3)) 76)) z m m 1 3 (fun _ => .int .i64 0) ∧
    Below w.heap.size w ((W.alloc (.cells (madeCells #[.int .i64 0] m) 3)).alloc (.cells (madeCells #[.int .i64 0, .bool false, .bool false] (n * 3)) 76)) := by
  subst hz
  refine ⟨?_, (own_full1 W (.int .i64 0) m 3 (by unfold maxLen; omega)).alloc _, (hB.alloc (by omega) _).alloc (by simp; omega) _⟩
  have h := own_bk0 (W.alloc (.cells (madeCells #[.int .i64 0] m) 3)) n (by omega)
  rw [World.size_alloc] at h
  exact h
set_option linter.unusedSimpArgs false in
set_option maxHeartbeats 2000000 in
theorem lineNew_any (n t : Int) (w : World) (hn : -9223372036854775808 ≤ n ∧ n ≤ 9223372036854775807) :
    Calls Tryz.prog 16 #[.int .i64 n, .int .i64 t] w (LrR (nwO n t) w) := by
  have HBB : Hid (∀ a, Below w.heap.size w (w.alloc a)) := fun a => below_all _ _
  have hbx : ∀ o, (w.alloc (.cells #[.slice none 0 0, .slice none 0 0] 31)).cell? ⟨w.heap.size, o, none⟩ = (#[.slice none 0 0, .slice none 0 0] : Array Value)[o]? := box_new _ _ _
  have HSV := fun W => Lib.hid (sectionsValid_any n W hn)
  cases h1 : inB n 1 5
  ·have HV := Lib.hid (nwO_n (t := t) h1)
   have H1 := Lib.hid h1
   clear h1 hn
   go_enter Tryz.func16, Tryz.ntmps16
   go_wp2_with fail
   refine (HSV _).out.mono ?_
   rintro e w' ⟨rfl, rfl⟩
   rw [H1.out]
   go_wp2_with fail
   exact bodyPost_ret (v := .tuple #[nilLn, .bool false]) (by simp [results, Tryz.results16, go_sem, hbx, nilLn]) rfl ⟨HBB.out _, .inl ⟨HV.out, rfl⟩⟩
  ·have h1' := inB_true.1 h1
   have H1 := Lib.hid h1
   clear h1
   by_cases h2 : t < 0
   ·have HV := Lib.hid (nwO_t (n := n) (inB_false.2 (by omega) : inB t 0 5 = false))
    clear hn
    go_enter Tryz.func16, Tryz.ntmps16
    go_wp2_with fail
    refine (HSV _).out.mono ?_
    rintro e w' ⟨rfl, rfl⟩
    rw [H1.out]
    go_wp2_with fail
    exact bodyPost_ret (v := .tuple #[nilLn, .bool false]) (by simp [results, Tryz.results16, go_sem, hbx, nilLn]) rfl ⟨HBB.out _, .inl ⟨HV.out, rfl⟩⟩
   by_cases h3 : 5 < t
   ·have HV := Lib.hid (nwO_t (n := n) (inB_false.2 (by omega) : inB t 0 5 = false))
    clear hn
    go_enter Tryz.func16, Tryz.ntmps16
    go_wp2_with fail
    refine (HSV _).out.mono ?_
    rintro e w' ⟨rfl, rfl⟩
    rw [H1.out]
    go_wp2_with fail
    exact bodyPost_ret (v := .tuple #[nilLn, .bool false]) (by simp [results, Tryz.results16, go_sem, hbx, nilLn]) rfl ⟨HBB.out _, .inl ⟨HV.out, rfl⟩⟩
   obtain ⟨n, rfl⟩ := Int.eq_ofNat_of_zero_le (show 0 ≤ n by omega)
   obtain ⟨t, rfl⟩ := Int.eq_ofNat_of_zero_le (show 0 ≤ t by omega)
   have HV := Lib.hid (nwO_yes (n := n) (t := t) (inB_true.2 (by omega)) (inB_true.2 (by omega)))
   have hmkb := fun w => run_mk elBk n n (Nat.le_refl _) (by omega) (by omega) w
   have hmki := fun w => run_mk elInt t t (Nat.le_refl _) (by omega) (by omega) w
   simp only [Nat.mul_one] at hmki
   clear hn
   go_enter Tryz.func16, Tryz.ntmps16
   go_wp2_with fail
   refine (HSV _).out.mono ?_
   rintro e w' ⟨rfl, rfl⟩
   rw [H1.out]
   obtain ⟨W0, hW0⟩ : ∃ W0, W0 = (w.alloc (.cells #[.slice none 0 0, .slice none 0 0] 31)).drew := ⟨_, rfl⟩
   have hr0 : ∀ o, W0.cell? ⟨w.heap.size, o, none⟩ = (#[.slice none 0 0, .slice none 0 0] : Array Value)[o]? := by rw [hW0]; exact box_new _ _ _
   have hrf : ∀ o, W0.frozen? ⟨w.heap.size, o, none⟩ = false := by rw [hW0]; exact (Bx.new w 31 #[.slice none 0 0, .slice none 0 0]).free
   have hrs : w.heap.size < W0.heap.size := by rw [hW0]; simp
   have HB0 : Hid (Below w.heap.size w W0) := by rw [hW0]; exact (below_all w (.cells #[.slice none 0 0, .slice none 0 0] 31)).drew
   go_wp2_with fail
   refine wp_region_held_drew (S := (fun _ => True)) (by kernel_rfl) trivial (fun hHeld => ?_)
   rw [← hW0]
   clear hW0
   refine tkR 0 ?_
   refine tkR 2 ?_
   refine wpAnyH_ready (rs := [1, 3]) (by kernel_rfl) (by simp) ?_
   refine c1R (fun K hK => ?_) ?_
   ·go_simp
    refine oR hK ?_ (fun hHeld => ?_)
    ·exact trivial
    clear hK K
    refine r1R 3 (fun K hK => ?_)
    go_simp
    refine oR hK ?_ (fun hHeld => ?_)
    ·exact trivial
    clear hK K
    refine tkR 4 ?_
    refine r1R 5 (fun K hK => ?_)
    go_simp
    refine oR hK ?_ (fun hHeld => ?_)
    ·exact trivial
    clear hK K
    refine tkR 6 ?_
    refine wpAnyH_done (by kernel_rfl) ?_ _
    go_wp2_with fail
    refine bodyPost_ret (v := .tuple #[.agg #[.slice (some ⟨W0.heap.size, 0, none⟩) n n, .slice (some ⟨W0.heap.size + 1, 0, none⟩) t t], .bool true]) (by simp [results, Tryz.results16, Tryz.results17, go_sem, hr0, hrs]) rfl ?_
    obtain ⟨h1, h2, h3⟩ := nw_two (w := w) (W := (W0.setCell ⟨w.heap.size, 0, none⟩ (.slice (some ⟨W0.heap.size, 0, none⟩) n n)).setCell ⟨w.heap.size, 1, none⟩ (.slice (some ⟨W0.heap.size + 1, 0, none⟩) t t)) (z := W0.heap.size) (by simp) ((HB0.out.setCell (Nat.le_refl _) _).setCell (Nat.le_refl _) _) (by simp; omega) n t (by omega) (by omega)
    exact nw_done h1 h2 (by omega) (by omega) (by omega) h3 _ _ HV.out
   ·refine c1R (fun K hK => ?_) ?_
    ·go_simp
     refine oR hK ?_ (fun hHeld => ?_)
     ·exact trivial
     clear hK K
     refine r1R 1 (fun K hK => ?_)
     go_simp
     refine oR hK ?_ (fun hHeld => ?_)
     ·exact trivial
     clear hK K
     refine tkR 4 ?_
     refine r1R 5 (fun K hK => ?_)
     go_simp
     refine oR hK ?_ (fun hHeld => ?_)
     ·exact trivial
     clear hK K
     refine tkR 6 ?_
     refine wpAnyH_done (by kernel_rfl) ?_ _
     go_wp2_with fail
     refine bodyPost_ret (v := .tuple #[.agg #[.slice (some ⟨W0.heap.size + 1, 0, none⟩) n n, .slice (some ⟨W0.heap.size, 0, none⟩) t t], .bool true]) (by simp [results, Tryz.results16, Tryz.results17, go_sem, hr0, hrs]) rfl ?_
     obtain ⟨h1, h2, h3⟩ := nw_two' (w := w) (W := (W0.setCell ⟨w.heap.size, 0, none⟩ (.slice (some ⟨W0.heap.size + 1, 0, none⟩) n n)).setCell ⟨w.heap.size, 1, none⟩ (.slice (some ⟨W0.heap.size, 0, none⟩) t t)) (z := W0.heap.size) (by simp) ((HB0.out.setCell (Nat.le_refl _) _).setCell (Nat.le_refl _) _) (by simp; omega) n t (by omega) (by omega)
     exact nw_done h1 h2 (by omega) (by omega) (by omega) h3 _ _ HV.out
    ·exact AllReadyH.nil
set_option linter.unusedSimpArgs false in
set_option maxHeartbeats 2000000 in
theorem specLineNew_any (n t : Int) (w : World) :
    Calls Tryz.prog 17 #[.int .i64 n, .int .i64 t] w (LrR (nwO n t) w) := by
  have HBB : Hid (∀ a, Below w.heap.size w (w.alloc a)) := fun a => below_all _ _
  have hbx : ∀ o, (w.alloc (.cells #[.slice none 0 0, .slice none 0 0] 31)).cell? ⟨w.heap.size, o, none⟩ = (#[.slice none 0 0, .slice none 0 0] : Array Value)[o]? := box_new _ _ _
  cases h1 : inB n 1 5
  ·have HV := Lib.hid (nwO_n (t := t) h1)
   have H1 := Lib.hid h1
   clear h1
   go_enter Tryz.func17, Tryz.ntmps17
   go_wp2_with fail
   refine (l6In_any _ _ _ _).mono ?_
   rintro e w' ⟨rfl, rfl⟩
   rw [H1.out]
   go_wp2_with fail
   exact bodyPost_ret (v := .tuple #[nilLn, .bool false]) (by simp [results, Tryz.results17, go_sem, hbx, nilLn]) rfl ⟨HBB.out _, .inl ⟨HV.out, rfl⟩⟩
  cases h2 : inB t 0 5
  ·have HV := Lib.hid (nwO_t (n := n) h2)
   have H1 := Lib.hid h1
   have H2 := Lib.hid h2
   clear h1 h2
   go_enter Tryz.func17, Tryz.ntmps17
   go_wp2_with fail
   refine (l6In_any _ _ _ _).mono ?_
   rintro e w' ⟨rfl, rfl⟩
   rw [H1.out]
   go_wp2_with fail
   refine (l6In_any _ _ _ _).mono ?_
   rintro e w' ⟨rfl, rfl⟩
   rw [H2.out]
   go_wp2_with fail
   exact bodyPost_ret (v := .tuple #[nilLn, .bool false]) (by simp [results, Tryz.results17, go_sem, hbx, nilLn]) rfl ⟨HBB.out _, .inl ⟨HV.out, rfl⟩⟩
  have h1' := inB_true.1 h1
  have h2' := inB_true.1 h2
  obtain ⟨n, rfl⟩ := Int.eq_ofNat_of_zero_le (show 0 ≤ n by omega)
  obtain ⟨t, rfl⟩ := Int.eq_ofNat_of_zero_le (show 0 ≤ t by omega)
  have HV := Lib.hid (nwO_yes (n := n) (t := t) h1 h2)
  have H1 := Lib.hid h1
  have H2 := Lib.hid h2
  clear h1 h2
  have hmkb := fun w => run_mk elBk n n (Nat.le_refl _) (by omega) (by omega) w
  have hmki := fun w => run_mk elInt t t (Nat.le_refl _) (by omega) (by omega) w
  simp only [Nat.mul_one] at hmki
  go_enter Tryz.func17, Tryz.ntmps17
  go_wp2_with fail
  refine (l6In_any _ _ _ _).mono ?_
  rintro e w' ⟨rfl, rfl⟩
  rw [H1.out]
  go_wp2_with fail
  refine (l6In_any _ _ _ _).mono ?_
  rintro e w' ⟨rfl, rfl⟩
  rw [H2.out]
  obtain ⟨W0, hW0⟩ : ∃ W0, W0 = (w.alloc (.cells #[.slice none 0 0, .slice none 0 0] 31)).drew := ⟨_, rfl⟩
  have hr0 : ∀ o, W0.cell? ⟨w.heap.size, o, none⟩ = (#[.slice none 0 0, .slice none 0 0] : Array Value)[o]? := by rw [hW0]; exact box_new _ _ _
  have hrf : ∀ o, W0.frozen? ⟨w.heap.size, o, none⟩ = false := by rw [hW0]; exact (Bx.new w 31 #[.slice none 0 0, .slice none 0 0]).free
  have hrs : w.heap.size < W0.heap.size := by rw [hW0]; simp
  have HB0 : Hid (Below w.heap.size w W0) := by rw [hW0]; exact (below_all w (.cells #[.slice none 0 0, .slice none 0 0] 31)).drew
  go_wp2_with fail
  refine wp_region_held_drew (S := (fun _ => True)) (by kernel_rfl) trivial (fun hHeld => ?_)
  rw [← hW0]
  clear hW0
  refine tkR 0 ?_
  refine tkR 2 ?_
  refine wpAnyH_ready (rs := [1, 3]) (by kernel_rfl) (by simp) ?_
  refine c1R (fun K hK => ?_) ?_
  ·go_simp
   refine oR hK ?_ (fun hHeld => ?_)
   ·exact trivial
   clear hK K
   refine r1R 3 (fun K hK => ?_)
   go_simp
   refine oR hK ?_ (fun hHeld => ?_)
   ·exact trivial
   clear hK K
   refine tkR 4 ?_
   refine r1R 5 (fun K hK => ?_)
   go_simp
   refine oR hK ?_ (fun hHeld => ?_)
   ·exact trivial
   clear hK K
   refine tkR 6 ?_
   refine wpAnyH_done (by kernel_rfl) ?_ _
   go_wp2_with fail
   refine bodyPost_ret (v := .tuple #[.agg #[.slice (some ⟨W0.heap.size, 0, none⟩) n n, .slice (some ⟨W0.heap.size + 1, 0, none⟩) t t], .bool true]) (by simp [results, Tryz.results16, Tryz.results17, go_sem, hr0, hrs]) rfl ?_
   obtain ⟨h1, h2, h3⟩ := nw_two (w := w) (W := (W0.setCell ⟨w.heap.size, 0, none⟩ (.slice (some ⟨W0.heap.size, 0, none⟩) n n)).setCell ⟨w.heap.size, 1, none⟩ (.slice (some ⟨W0.heap.size + 1, 0, none⟩) t t)) (z := W0.heap.size) (by simp) ((HB0.out.setCell (Nat.le_refl _) _).setCell (Nat.le_refl _) _) (by simp; omega) n t (by omega) (by omega)
   exact nw_done h1 h2 (by omega) (by omega) (by omega) h3 _ _ HV.out
  ·refine c1R (fun K hK => ?_) ?_
   ·go_simp
    refine oR hK ?_ (fun hHeld => ?_)
    ·exact trivial
    clear hK K
    refine r1R 1 (fun K hK => ?_)
    go_simp
    refine oR hK ?_ (fun hHeld => ?_)
    ·exact trivial
    clear hK K
    refine tkR 4 ?_
    refine r1R 5 (fun K hK => ?_)
    go_simp
    refine oR hK ?_ (fun hHeld => ?_)
    ·exact trivial
    clear hK K
    refine tkR 6 ?_
    refine wpAnyH_done (by kernel_rfl) ?_ _
    go_wp2_with fail
    refine bodyPost_ret (v := .tuple #[.agg #[.slice (some ⟨W0.heap.size + 1, 0, none⟩) n n, .slice (some ⟨W0.heap.size, 0, none⟩) t t], .bool true]) (by simp [results, Tryz.results16, Tryz.results17, go_sem, hr0, hrs]) rfl ?_
    obtain ⟨h1, h2, h3⟩ := nw_two' (w := w) (W := (W0.setCell ⟨w.heap.size, 0, none⟩ (.slice (some ⟨W0.heap.size + 1, 0, none⟩) n n)).setCell ⟨w.heap.size, 1, none⟩ (.slice (some ⟨W0.heap.size, 0, none⟩) t t)) (z := W0.heap.size) (by simp) ((HB0.out.setCell (Nat.le_refl _) _).setCell (Nat.le_refl _) _) (by simp; omega) n t (by omega) (by omega)
    exact nw_done h1 h2 (by omega) (by omega) (by omega) h3 _ _ HV.out
   ·exact AllReadyH.nil
theorem cntA_none {f : Nat → Int} {p : Int} (h : ∀ i, f i ≠ p) : ∀ m, cntA f p m = 0
  | 0 => rfl
  | m + 1 => by
   simp only [cntA]
   rw [cntA_none h m, if_neg (h m)]
theorem newL_vld {n m : Nat} (h1 : 1 ≤ n) (h2 : n ≤ 5) (h3 : m ≤ 5) : vldL (newL n m) = true := by
 refine vldL_of (inB_true.2 ⟨by show (1 : Int) ≤ (n : Int); omega, by show (n : Int) ≤ 5; omega⟩) h3 (fun k _ => rfl) (fun i _ => ?_) (fun k _ => ?_)
 ·rw [trOk_true]
  exact ⟨⟨Int.le_refl _, by show (0 : Int) ≤ 2 * (n : Int); omega⟩, .inr (Int.le_refl _)⟩
 ·rw [cnOk_true]
  show cntA (fun _ => 0) (2 * (k : Int) + 1) m = 0
  exact cntA_none (fun i => by omega) m
section
variable {w wr w' : World} {R b3 g1 c1 g2 c2 M M' : Nat} {y : Ln}
end
section
variable {w wr w' : World} {b g1 c1 g2 c2 : Nat} {x : Ln}
end
theorem LrR.some {o : Option Ln} {y : Ln} {w w' : World} {e : Ending} (h : LrR o w e w') (ho : o = some y) : ∃ v, e = .returned (.tuple #[v, .bool true]) ∧ LnO w.heap.size w' v y ∧ Below w.heap.size w w' := by
 obtain ⟨hb, ⟨h1, _⟩ | ⟨y', v, h1, h2, h3⟩⟩ := h
 ·rw [ho] at h1; cases h1
 ·rw [ho] at h1; cases h1; exact ⟨v, h2, h3, hb⟩
def lnT (t : ByteArray) : List ByteArray := Lib.splitB ⟨#[10]⟩ 0 (Lib.countB t ⟨#[10]⟩) t
def lnI (t : ByteArray) (i : Nat) : ByteArray := ((lnT t)[i]?).getD ⟨#[]⟩
theorem lnT_len (t : ByteArray) : (lnT t).length = Lib.countB t ⟨#[10]⟩ + 1 := Lib.splitB_all ⟨#[10]⟩ (by decide) 0 _ t rfl
theorem ln_cell (t : ByteArray) (w : World) {i : Nat} (h : i < (lnT t).length) : (w.alloc (.cells ((lnT t).map Value.string).toArray 9)).cell? ⟨w.heap.size, i, none⟩ = some (.string (lnI t i)) := by
 have hh : (w.alloc (.cells ((lnT t).map Value.string).toArray 9)).heap[w.heap.size]? = some (.cells ((lnT t).map Value.string).toArray 9 (0, 0)) := heap_alloc_new _ _
 simp only [World.cell?, hh]
 unfold lnI
 simp [h]
def exO (out : Nat → ByteArray) : Nat → List UInt8
  | 0 => []
  | k + 1 => exO out k ++ ((out k).data.toList ++ [10])
theorem exO_len {out : Nat → ByteArray} (h : ∀ k, (out k).size ≤ 1000000) : ∀ k, (exO out k).length ≤ 1000001 * k
  | 0 => Nat.zero_le _
  | k + 1 => by
   have := exO_len h k
   have h2 : (out k).data.toList.length ≤ 1000000 := by have := h k; simpa using this
   simp only [exO, List.length_append, List.length_cons, List.length_nil]
   omega
def exT (a b : Nat) : ByteArray := ⟨#[116, 114, 97, 105, 110, 115, 32]⟩ ++ ⟨(Lib.decDigits a).toArray⟩ ++ ⟨#[32, 112, 97, 116, 104, 115, 32]⟩ ++ ⟨(Lib.decDigits b).toArray⟩ ++ ⟨#[10]⟩
structure ExM (w wr : World) (t : ByteArray) (s ob bl : Nat) (own : Nat → Prop) (o : List UInt8) : Prop where
  sb : SbS (fun q => ¬ own q ∧ q ≠ bl) w.heap.size ob (Lib.byteCells o) wr
  ln : ∀ i, i < (lnT t).length → wr.cell? ⟨bl, i, none⟩ = some (.string (lnI t i))
  bo : ¬ own bl
  bz : bl < wr.heap.size
  zl : w.heap.size ≤ bl
  ow : own s
  oz : ∀ q, own q → w.heap.size ≤ q ∧ q < wr.heap.size
  bd : Below w.heap.size w wr
theorem dd_size {n : Nat} (h : n < 100) : (⟨(Lib.decDigits n).toArray⟩ : ByteArray).size ≤ 21 := by
 have q := Lib.itoa_length_le (n : Int) (by omega) (by omega)
 have e : Lib.itoa (n : Int) = Lib.decDigits n := by
  unfold Lib.itoa
  rw [if_neg (by omega), show ((n : Nat) : Int).toNat = n by omega]
 rw [e] at q
 show (Lib.decDigits n).toArray.size ≤ 21
 simpa using q
set_option maxRecDepth 100000 in
set_option maxHeartbeats 4000000 in
set_option linter.unusedSimpArgs false in
theorem execute_gen (t : ByteArray) (m : Int) (w : World) (hsz : t.size ≤ 500) (hm : w.cell? ⟨0, 0, none⟩ = some (.int .i64 m)) (St : Nat → (Nat → Prop) → World → Nat → Prop) (out : Nat → ByteArray) (tr pn : Nat)
    (hout : ∀ k, (out k).size ≤ 1000000) (htr : tr < 100) (hpn : pn < 100)
    (hinit : ∀ W s g1 c1 g2 c2, Below w.heap.size w W → w.heap.size ≤ g1 → w.heap.size ≤ g2 → g1 ≠ g2 → g1 < s → g2 < s → Bx W s 56 #[.slice (some ⟨g1, 0, none⟩) 1 c1, .slice (some ⟨g2, 0, none⟩) 0 c2, .slice none 0 0, .int .i64 0, .slice none 0 0, .slice none 0 0] →
      Own W g1 c1 1 3 76 (bkF (newL 1 0).N (newL 1 0).I (newL 1 0).O) → Own W g2 c2 0 1 3 (fun i => .int .i64 ((newL 1 0).T i)) → St 0 (fun q => q = s ∨ q = g1 ∨ q = g2) W s)
    (hkeep : ∀ k own W W' s, St k own W s → Fr (fun q => ¬ own q) W W' → St k own W' s)
    (hstep : ∀ k own W s, k + 1 < (lnT t).length → St k own W s → Below w.heap.size w W → (∀ q, own q → w.heap.size ≤ q ∧ q < W.heap.size) → Calls Tryz.prog 37 #[.pointer (some ⟨s, 0, none⟩), .string (lnI t k)] W fun e w' => e = .returned (.string (out k)) ∧ ∃ own', St (k + 1) own' w' s ∧ Fr own W w' ∧ own' s ∧ ∀ q, own' q → (own q ∨ W.heap.size ≤ q) ∧ q < w'.heap.size)
    (hend : ∀ own W s, St ((lnT t).length - 1) own W s → (∃ a c, W.cell? ⟨s, 1, none⟩ = some (.slice a tr c)) ∧ ∃ a c, W.cell? ⟨s, 2, none⟩ = some (.slice a pn c)) :
    Calls Tryz.prog 11 #[.string t] w fun e w' => e = .returned (.string ⟨(exO out ((lnT t).length - 1) ++ (exT tr pn).data.toList).toArray⟩) ∧ Below w.heap.size w w' := by
  have H00 : 0 < w.heap.size := World.block_lt_of_cell? w ⟨0, 0, none⟩ hm
  have HSP : Hid (∀ W, Below w.heap.size w W → Calls Tryz.prog 35 #[.string t, .string ⟨#[10]⟩] W fun e w' => e = .returned (.slice (some ⟨W.heap.size, 0, none⟩) (lnT t).length (lnT t).length) ∧ w' = W.alloc (.cells ((lnT t).map Value.string).toArray 9)) := fun W h => by
   have q := Tryz.strings_Split t ⟨#[10]⟩ m W (by omega) (by rw [h.cell (p := ⟨0, 0, none⟩) H00]; exact hm) (by decide)
   rw [← lnT_len] at q
   exact q
  have HIN := Lib.hid hinit
  have HKE := Lib.hid hkeep
  have HST := Lib.hid hstep
  have HEN := Lib.hid hend
  have HLN := Lib.hid (lineNew_any 1 0 w (by omega))
  have HNW : Hid (nwO 1 0 = some (newL 1 0)) := rfl
  clear hinit hkeep hstep hend
  go_enter Tryz.func11, Tryz.ntmps11
  go_wp2_with fail
  refine HLN.out.mono ?_
  rintro e w1 h1
  obtain ⟨v, rfl, hl1, hb1⟩ := h1.some HNW.out
  have HL1 := Lib.hid hl1
  have HB1 := Lib.hid hb1
  obtain ⟨g1, c1, g2, c2, rfl, _⟩ := hl1
  clear hb1 h1
  have HS2 : Hid (Bx (((w1.alloc (.cells #[.slice (some ⟨g1, 0, none⟩) (newL 1 0).n c1, .slice (some ⟨g2, 0, none⟩) (newL 1 0).m c2] 31)).alloc (.cells #[.slice (some ⟨g1, 0, none⟩) (newL 1 0).n c1, .slice (some ⟨g2, 0, none⟩) (newL 1 0).m c2, .slice none 0 0, .int .i64 0, .slice none 0 0, .slice none 0 0] 56)).alloc (.cells #[.pointer none, .slice none 0 0] 59)) (w1.heap.size + 1) 56 #[.slice (some ⟨g1, 0, none⟩) (newL 1 0).n c1, .slice (some ⟨g2, 0, none⟩) (newL 1 0).m c2, .slice none 0 0, .int .i64 0, .slice none 0 0, .slice none 0 0]) := (Bx.newAt (by simp)).alloc _
  have HO2 : Hid (Bx (((w1.alloc (.cells #[.slice (some ⟨g1, 0, none⟩) (newL 1 0).n c1, .slice (some ⟨g2, 0, none⟩) (newL 1 0).m c2] 31)).alloc (.cells #[.slice (some ⟨g1, 0, none⟩) (newL 1 0).n c1, .slice (some ⟨g2, 0, none⟩) (newL 1 0).m c2, .slice none 0 0, .int .i64 0, .slice none 0 0, .slice none 0 0] 56)).alloc (.cells #[.pointer none, .slice none 0 0] 59)) (w1.heap.size + 1 + 1) 59 #[.pointer none, .slice none 0 0]) := Bx.newAt (by simp)
  have HBW : Hid (Below w1.heap.size w1 (((w1.alloc (.cells #[.slice (some ⟨g1, 0, none⟩) (newL 1 0).n c1, .slice (some ⟨g2, 0, none⟩) (newL 1 0).m c2] 31)).alloc (.cells #[.slice (some ⟨g1, 0, none⟩) (newL 1 0).n c1, .slice (some ⟨g2, 0, none⟩) (newL 1 0).m c2, .slice none 0 0, .int .i64 0, .slice none 0 0, .slice none 0 0] 56)).alloc (.cells #[.pointer none, .slice none 0 0] 59))) := ((below_all _ _).alloc (by simp) _).alloc (by simp; omega) _
  go_wp2_with fail
  generalize ((w1.alloc (.cells #[.slice (some ⟨g1, 0, none⟩) (newL 1 0).n c1, .slice (some ⟨g2, 0, none⟩) (newL 1 0).m c2] 31)).alloc (.cells #[.slice (some ⟨g1, 0, none⟩) (newL 1 0).n c1, .slice (some ⟨g2, 0, none⟩) (newL 1 0).m c2, .slice none 0 0, .int .i64 0, .slice none 0 0, .slice none 0 0] 56)).alloc (.cells #[.pointer none, .slice none 0 0] 59) = W2 at *
  have HB2 := Lib.hid (HB1.out.trans (HBW.out.mono HB1.out.size))
  refine (HSP.out _ HB2.out).mono ?_
  rintro e W3 ⟨rfl, rfl⟩
  have hzw := HB1.out.size
  have hzs := HS2.out.lt
  have hzo := HO2.out.lt
  have HM : Hid (∃ own, St 0 own (W2.alloc (.cells ((lnT t).map Value.string).toArray 9)) (w1.heap.size + 1) ∧ ExM w (W2.alloc (.cells ((lnT t).map Value.string).toArray 9)) t (w1.heap.size + 1) (w1.heap.size + 1 + 1) W2.heap.size own []) := by
   obtain ⟨_, _, _, _, e, hl2, hl3, hgne, hg1, hg2⟩ := HL1.out
   cases e
   have hg1l := hl2.lt
   have hg2l := hl3.lt
   have hst := HIN.out W2 (w1.heap.size + 1) g1 c1 g2 c2 HB2.out hg1 hg2 hgne (by omega) (by omega) HS2.out (hl2.below HBW.out hl2.lt) (hl3.below HBW.out hl3.lt)
   have ha := below_all W2 (.cells ((lnT t).map Value.string).toArray 9)
   refine ⟨_, HKE.out _ _ _ _ _ hst (Fr.of_below ha _), ?_, fun i hi => ln_cell t W2 hi, by omega, by simp, by omega, .inl rfl, fun q hq => ?_, HB2.out.trans (ha.mono HB2.out.size)⟩
   ·have hx : Bx (W2.alloc (.cells ((lnT t).map Value.string).toArray 9)) (w1.heap.size + 1 + 1) 59 #[.pointer none, .slice none 0 0] := HO2.out.alloc _
    exact ⟨_, .inl rfl, by omega, by omega, _, hx, ⟨rfl, .inl ⟨rfl, rfl⟩⟩, by simp [Value.ownBlock], fun q hq => by simp [Value.ownBlock] at hq⟩
   ·have : (W2.alloc (.cells ((lnT t).map Value.string).toArray 9)).heap.size = W2.heap.size + 1 := by simp
    omega
  clear HS2 HO2 HBW HB1 HL1 HLN HNW HB2 HIN HSP
  generalize W2.alloc (.cells ((lnT t).map Value.string).toArray 9) = W3 at *
  have hlen := lnT_len t
  have hl1 : 1 ≤ (lnT t).length := by omega
  have hl5 : (lnT t).length ≤ 501 := by have := Lib.countB_le ⟨#[10]⟩ (by decide) t.size t (Nat.le_refl _); omega
  clear hlen
  have hv1 : IntKind.i64.wrap (((lnT t).length : Int) - 1) = ((lnT t).length : Int) - 1 := IntWalk.i64_in _ (by omega)
  have hv2 : (((lnT t).length : Int) - 1).toNat = (lnT t).length - 1 := by omega
  have hv3 : (0 : Int) ≤ ((lnT t).length : Int) - 1 := by omega
  have hv4 : ((lnT t).length : Int) - 1 ≤ ((lnT t).length : Int) := by omega
  have hv5 : (1 : Int) ≤ ((lnT t).length : Int) := by omega
  have HZ3 : Hid (w1.heap.size + 1 + 1 < W2.heap.size) := hzo
  generalize w1.heap.size + 1 + 1 = ob at *
  generalize w1.heap.size + 1 = sb at *
  generalize W2.heap.size = bl at *
  go_wp2_with fail
  go_loopw [9, 28] (fun _ i wr => ∃ k : Nat, k ≤ (lnT t).length - 1 ∧ i = .int .i64 k ∧ Hid (∃ own, St k own wr sb ∧ ExM w wr t sb ob bl own (exO out k))) (fun _ i _ => (lnT t).length - 1 - (intOf i).toNat)
  case atStart => exact ⟨0, Nat.zero_le _, rfl, HM⟩
  case round =>
   obtain ⟨k, hk, rfl, HI⟩ := hrel
   obtain ⟨own, hst, hex⟩ := HI.out
   have HS := Lib.hid hst
   have HE := Lib.hid hex
   clear hst hex HI
   by_cases hlt : k < (lnT t).length - 1
   ·have hcc := HE.out.ln k (by omega)
    have hki : (k : Int) < ((lnT t).length : Int) - 1 := by omega
    have hkn : k < (lnT t).length := by omega
    have HAN := Lib.hid (HST.out k own wr sb (by omega) HS.out HE.out.bd HE.out.oz)
    have hos := hout k
    have hss1 : ¬ 9223372036854775807 < (out k).size + 1 := by omega
    go_wp2_with fail
    refine HAN.out.mono ?_
    rintro e w4 ⟨rfl, own', hst, hf, hos', hoq⟩
    have HS4 := Lib.hid hst
    have HF4 := Lib.hid hf
    have HOS := Lib.hid hos'
    have HOQ := Lib.hid hoq
    have hz4 := hf.size
    have HB4 : Hid (Below w.heap.size w w4) := HE.out.bd.trans (hf.below (fun q hq => (HE.out.oz q hq).1) HE.out.bd.size)
    have hsb : SbS (fun q => ¬ own' q ∧ q ≠ bl) w.heap.size ob (Lib.byteCells (exO out k)) w4 := by
     have q1 : SbS (fun q => ¬ own q ∧ q ≠ bl ∧ q < wr.heap.size) w.heap.size ob (Lib.byteCells (exO out k)) wr := HE.out.sb.imp (fun q hq h => ⟨h.1, h.2, hq⟩)
     exact (q1.fr hf (fun q h => h.1)).imp (fun q _ h => ⟨fun ho => by rcases (hoq q ho).1 with h2 | h2
                                                                       ·exact h.1 h2
                                                                       ·omega, h.2.1⟩)
    have HSB := Lib.hid hsb
    have hln := exO_len hout k
    clear hst hf hos' hoq HAN hsb
    have HWS := Lib.hid (writeStringF_any (fun q => ¬ own' q ∧ q ≠ bl) w.heap.size ob (Lib.byteCells (exO out k)) (out k ++ ⟨#[10]⟩) w4 HSB.out (by simp only [Lib.byteCells_length, ByteArray.size_append]; have : (⟨#[10]⟩ : ByteArray).size = 1 := rfl; omega) HB4.out.size)
    go_wp2_with fail
    refine HWS.out.mono ?_
    rintro e w5 ⟨rfl, hsb, hb5, hf5⟩
    have HN : Hid (∃ own, St (k + 1) own w5 sb ∧ ExM w w5 t sb ob bl own (exO out (k + 1))) := by
     have hz5 := hf5.size
     refine ⟨own', HKE.out _ _ _ _ _ HS4.out (hf5.mono (fun q _ h => h.1)), ?_, fun i hi => ?_, fun ho => ?_, ?_, HE.out.zl, HOS.out, fun q hq => ?_, HB4.out.trans hb5⟩
     ·have e1 : Lib.byteCells (exO out (k + 1)) = Lib.byteCells (exO out k) ++ Lib.strCells (out k ++ ⟨#[10]⟩) := by
       simp only [exO]
       rw [Lib.byteCells_append, Lib.strCells_eq, ByteArray.data_append, Array.toList_append]
      rw [e1]
      refine hsb.imp (fun q hq h => ?_)
      rcases h with h | h
      ·exact h
      ·refine ⟨fun ho => by have := (HOQ.out q ho).2; omega, ?_⟩
       have := HE.out.bz
       omega
     ·have h1 := HE.out.ln i hi
      have h2 : w4.heap[bl]? = wr.heap[bl]? := HF4.out.block bl HE.out.bz HE.out.bo
      have h3 : w5.heap[bl]? = w4.heap[bl]? := hf5.block bl (by have := HE.out.bz; omega) (fun h => h.2 rfl)
      rw [World.cell?_of_block (a := ⟨bl, i, none⟩) h3, World.cell?_of_block (a := ⟨bl, i, none⟩) h2]
      exact h1
     ·rcases (HOQ.out bl ho).1 with h2 | h2
      ·exact HE.out.bo h2
      ·have := HE.out.bz; omega
     ·have := HE.out.bz; omega
     ·have h2 := HOQ.out q hq
      refine ⟨?_, by omega⟩
      rcases h2.1 with h3 | h3
      ·exact (HE.out.oz q h3).1
      ·have := HE.out.bd.size; omega
    clear hsb hb5 hf5 HWS hcc
    go_wp2_with fail
    go_roundw
    case rel => exact ⟨k + 1, by omega, by go_num, HN.out⟩
    case measure => simp [intOf]; omega
   ·obtain rfl : k = (lnT t).length - 1 := by omega
    obtain ⟨⟨a1, n1, hp1⟩, ⟨a2, n2, hp2⟩⟩ := HEN.out own wr sb HS.out
    have hsl : sb < wr.heap.size := (HE.out.oz sb HE.out.ow).2
    have HCC : Hid (∀ W, Fr (fun q => ¬ own q) wr W → W.cell? ⟨sb, 1, none⟩ = some (.slice a1 tr n1) ∧ W.cell? ⟨sb, 2, none⟩ = some (.slice a2 pn n2)) := fun W h => by
     have hb : W.heap[sb]? = wr.heap[sb]? := h.block sb hsl (fun q => q HE.out.ow)
     rw [World.cell?_of_block (a := ⟨sb, 1, none⟩) hb, World.cell?_of_block (a := ⟨sb, 2, none⟩) hb]
     exact ⟨hp1, hp2⟩
    clear hp1 hp2
    have hln := exO_len hout ((lnT t).length - 1)
    have hd1 : (⟨(Lib.decDigits tr).toArray⟩ : ByteArray).size ≤ 21 := dd_size htr
    have hd2 : (⟨(Lib.decDigits pn).toArray⟩ : ByteArray).size ≤ 21 := dd_size hpn
    have HET : Hid (exT tr pn = ⟨#[116, 114, 97, 105, 110, 115, 32]⟩ ++ ⟨(Lib.decDigits tr).toArray⟩ ++ ⟨#[32, 112, 97, 116, 104, 115, 32]⟩ ++ ⟨(Lib.decDigits pn).toArray⟩ ++ ⟨#[10]⟩) := rfl
    have HIT : Hid (∀ W, Calls Tryz.prog 38 #[.int .i64 tr] W fun e w' => e = .returned (.string ⟨(Lib.decDigits tr).toArray⟩) ∧ w' = W) := fun W => Tryz.strconv_Itoa_small tr htr W
    have HIP : Hid (∀ W, Calls Tryz.prog 38 #[.int .i64 pn] W fun e w' => e = .returned (.string ⟨(Lib.decDigits pn).toArray⟩) ∧ w' = W) := fun W => Tryz.strconv_Itoa_small pn hpn W
    have HWD : Hid (Fr (fun q => ¬ own q) wr wr.drew) := Fr.of_below (Below.refl _ _).drew _
    have HSB : Hid (SbS (fun q => ¬ own q ∧ q ≠ bl) w.heap.size ob (Lib.byteCells (exO out ((lnT t).length - 1))) wr.drew) := HE.out.sb.fr (Fr.of_below (Below.refl _ _).drew (fun _ => False)) (fun _ _ h => h)
    generalize (⟨(Lib.decDigits tr).toArray⟩ : ByteArray) = dt at *
    generalize (⟨(Lib.decDigits pn).toArray⟩ : ByteArray) = dp at *
    have hs1 : ¬ 9223372036854775807 < 7 + dt.size := by omega
    have hs2 : ¬ 9223372036854775807 < 7 + dt.size + 7 := by omega
    have hs3 : ¬ 9223372036854775807 < 7 + dt.size + 7 + dp.size := by omega
    have hs4 : ¬ 9223372036854775807 < 7 + dt.size + 7 + dp.size + 1 := by omega
    go_wp2_with fail
    refine wp_region_held_drew (S := fun W => W.cell? ⟨sb, 1, none⟩ = some (.slice a1 tr n1) ∧ W.cell? ⟨sb, 2, none⟩ = some (.slice a2 pn n2)) (by kernel_rfl) (HCC.out _ HWD.out) (fun hHeld => ?_)
    refine tkR 0 ?_
    refine tkR 1 ?_
    refine tkR 2 ?_
    refine tkR 3 ?_
    refine tkR 4 ?_
    refine tkR 5 ?_
    refine tkR 9 ?_
    refine tkR 10 ?_
    refine tkR 11 ?_
    refine tkR 12 ?_
    refine tkR 13 ?_
    refine r1R 6 (fun K hK => ?_)
    go_simp
    go_at_call 38
    go_must (refine Calls.mono (HIT.out _) ?_)
    rintro e w' ⟨rfl, rfl⟩
    refine oR hK ?_ (fun hHeld => ?_)
    ·try dsimp only
     exact HCC.out _ HWD.out
    clear hK K
    refine tkR 7 ?_
    refine tkR 8 ?_
    refine r1R 14 (fun K hK => ?_)
    go_simp
    go_at_call 38
    go_must (refine Calls.mono (HIP.out _) ?_)
    rintro e w' ⟨rfl, rfl⟩
    refine oR hK ?_ (fun hHeld => ?_)
    ·try dsimp only
     exact HCC.out _ HWD.out
    clear hK K
    refine tkR 15 ?_
    refine tkR 16 ?_
    rw [← HET.out]
    have hez : (exT tr pn).size ≤ 100 := by rw [HET.out]; simp only [ByteArray.size_append]; have e1 : (⟨#[116, 114, 97, 105, 110, 115, 32]⟩ : ByteArray).size = 7 := rfl; have e2 : (⟨#[32, 112, 97, 116, 104, 115, 32]⟩ : ByteArray).size = 7 := rfl; have e3 : (⟨#[10]⟩ : ByteArray).size = 1 := rfl; omega
    have HWS := Lib.hid (writeStringF_any (fun q => ¬ own q ∧ q ≠ bl) w.heap.size ob (Lib.byteCells (exO out ((lnT t).length - 1))) (exT tr pn) wr.drew HSB.out (by simp only [Lib.byteCells_length]; omega) HE.out.bd.drew.size)
    clear hs1 hs2 hs3 hs4
    refine r1R 17 (fun K hK => ?_)
    go_simp
    go_at_call 36
    go_must (refine Calls.mono HWS.out ?_)
    rintro e w6 ⟨rfl, hsb, hb6, hf6⟩
    have HF6 := Lib.hid (HWD.out.trans (hf6.mono (fun q _ h => h.1)))
    have HS6 := Lib.hid hsb.sb
    have HB6 := Lib.hid (HE.out.bd.drew.trans hb6)
    clear hsb hb6 hf6
    refine oR hK ?_ (fun hHeld => ?_)
    ·try dsimp only
     exact HCC.out _ HF6.out
    clear hK K
    refine wpAnyH_done (by kernel_rfl) ?_ _
    have hbc : Lib.byteCells (exO out ((lnT t).length - 1)) ++ Lib.strCells (exT tr pn) = Lib.byteCells (exO out ((lnT t).length - 1) ++ (exT tr pn).data.toList) := by rw [Lib.byteCells_append, Lib.strCells_eq]
    rw [hbc] at HS6
    clear hbc
    go_wp2_with fail
    refine (string_any w.heap.size ob _ _ HS6.out HB6.out.size).mono ?_
    rintro e w7 ⟨rfl, hb7⟩
    have HB7 := Lib.hid (HB6.out.trans hb7)
    clear hb7
    go_wp2_with fail
    go_ret
    exact ⟨rfl, HB7.out⟩
def Rw (z : Nat) (w : World) (v : Value) (n s : Nat) (e : TypeId) (f : Nat → Value) : Prop :=
 (∃ g cap, v = .slice (some ⟨g, 0, none⟩) n cap ∧ z ≤ g ∧ Own w g cap n s e f) ∨ (n = 0 ∧ v = .slice none 0 0)
theorem Rw.shape {z : Nat} {w : World} {v : Value} {n s : Nat} {e : TypeId} {f : Nat → Value} (h : Rw z w v n s e f) : ∃ a c, v = .slice a n c := by
 rcases h with ⟨g, cap, rfl, _⟩ | ⟨rfl, rfl⟩
 ·exact ⟨_, _, rfl⟩
 ·exact ⟨_, _, rfl⟩
theorem Rw.blk {z : Nat} {w : World} {v : Value} {n s : Nat} {e : TypeId} {f : Nat → Value} (h : Rw z w v n s e f) : ∀ q, v.ownBlock = some q → z ≤ q ∧ q < w.heap.size := fun q hq => by
 rcases h with ⟨g, cap, rfl, hz, ho⟩ | ⟨rfl, rfl⟩
 ·have : some g = some q := hq
  cases this
  exact ⟨hz, ho.lt⟩
 ·cases hq
theorem Rw.fr {S : Nat → Prop} {z : Nat} {w w' : World} {v : Value} {n s : Nat} {e : TypeId} {f : Nat → Value} (h : Rw z w v n s e f) (hf : Fr S w w') (hb : ∀ q, v.ownBlock = some q → ¬ S q) : Rw z w' v n s e f := by
 rcases h with ⟨g, cap, rfl, hz, ho⟩ | ⟨rfl, rfl⟩
 ·exact .inl ⟨g, cap, rfl, hz, ho.fr hf (hb g rfl)⟩
 ·exact .inr ⟨rfl, rfl⟩
theorem Rw.congr {z : Nat} {w : World} {v : Value} {n s : Nat} {e : TypeId} {f g : Nat → Value} (h : Rw z w v n s e f) (hfg : ∀ i, i < n * s → f i = g i) : Rw z w v n s e g := by
 rcases h with ⟨b, cap, rfl, hz, ho⟩ | ⟨rfl, rfl⟩
 ·exact .inl ⟨b, cap, rfl, hz, Own.congr ho hfg⟩
 ·exact .inr ⟨rfl, rfl⟩
theorem run_nil1 {P : Program} (w : World) {t e : TypeId} {z : Value} {s bytes : Nat} (he : Elem P t e z s bytes) (ty : TypeId) {f : Nat → Value} (ad : Addr) (c : Nat) (hnew : ∀ j, j < s → w.cell? (ad.add j) = some (f j)) (hb : bytes ≤ 64) :
    ∃ g' cap' w', (Builtin.append_ #[t, t] ty #[.slice none 0 0, .slice (some ad) 1 c]).run P w = .ok (.slice (some ⟨g', 0, none⟩) 1 cap') w' ∧ Own w' g' cap' 1 s e f ∧ w.grownBy w' none ∧ g' = w.heap.size := by
  obtain ⟨i, hi, hz, hsz, hby⟩ := info_parts he.info
  subst hsz
  subst hby
  have hnews : ∀ j u, ((List.range i.size).map f)[j]? = some u → w.cell? (ad.add j) = some u := by
   intro j u hj
   rcases Nat.lt_or_ge j i.size with h | h
   ·rw [List.getElem?_map, List.getElem?_range h] at hj
    cases hj
    exact hnew j h
   ·rw [List.getElem?_eq_none (by simpa using h)] at hj
    cases hj
  have hr := run_append_nil (P := P) w t ty e i z he.ht hi hz ad 1 c ((List.range i.size).map f) (by simp) hnews (by omega) (by omega) (by omega)
  have hge := grownCap_ge w 1 0 e
  refine ⟨w.heap.size, _, _, hr, ⟨hge, grownCap_le_maxLen w 1 0 e (by unfold maxLen; omega), _, heap_alloc_new w.drew _, ?_, ?_⟩, ⟨rfl, rfl, rfl, by simp, fun k hk _ => Below.heap_alloc w.drew _ k hk⟩, rfl⟩
  ·simp only [Array.size_append, List.size_toArray, size_zeroCells, he.zs, List.length_map, List.length_range]
   rw [Nat.sub_mul]
   have : i.size ≤ grownCap w 1 0 e * i.size := by
    have := Nat.mul_le_mul_right i.size hge
    omega
   omega
  ·intro k hk
   have hk2 : k < i.size := by omega
   rw [Array.getElem?_append_left (by simpa using hk2)]
   simp [hk2]
theorem step_pushW {P : Program} {zz : Nat} {w : World} {t e : TypeId} {z : Value} {s bytes : Nat} (he : Elem P t e z s bytes) {ops : Array Oper} {o : Oper} {a : Act} {K : Act → World → Prop} {Q : Exit → Act → World → Prop} {E : Prop} (hgd : o.guard = none) (so xo : Operand)
    (ho : o.op = .call { callee := .builtin .append, args := #[so, xo], argTypes := #[t, t] }) {v : Value} {n : Nat} {f : Nat → Value} (hown : Rw zz w v n s e f) (hs : a.eval so = v) (vs : List Value)
    (hx : a.eval xo = .slice (some ⟨w.heap.size, 0, none⟩) 1 1) (hnew : ∀ j, j < s → vs[j]? = some (f (n * s + j))) (h1 : ∀ j, j < s → (f (n * s + j)).oneCell' = true)
    (hn : n ≤ 1000000) (hb : bytes ≤ 64) (hzz : zz ≤ w.heap.size)
    (h : ∀ v' w', Rw zz w' v' (n + 1) s e f → Fr (fun q => v.ownBlock = some q) w w' → (∀ q, v'.ownBlock = some q → v.ownBlock = some q ∨ w.heap.size ≤ q) → K (a.put o.dst v') w') : if Region.wanted o (yielded ops a.tmps) = true then Oper.wp P o a (w.alloc (.cells vs.toArray e)) K Q else E := by
  have hh : (w.alloc (.cells vs.toArray e)).heap[w.heap.size]? = some (.cells vs.toArray e (0, 0)) := heap_alloc_new _ _
  have hzs : (w.alloc (.cells vs.toArray e)).heap.size = w.heap.size + 1 := by simp
  rcases hown with ⟨g, cap, rfl, hz, hown⟩ | ⟨rfl, rfl⟩
  ·have hmul : (n + 1) * bytes ≤ 1000001 * 64 := Nat.mul_le_mul (by omega) hb
   refine step_app he hgd so xo ho (hown.alloc _) hs ⟨w.heap.size, 0, none⟩ 1 1 hx (fun j hj => ?_) (fun j hj => h1 j (by omega)) (by unfold maxLen; omega) (by omega) (fun g' cap' w' h2 h3 h4 => ?_)
   ·rw [addr_add, Nat.zero_add]
    simp only [World.cell?, hh]
    simpa using hnew j (by omega)
   ·refine h _ w' (.inl ⟨g', cap', rfl, ?_, h2⟩) ?_ (fun q hq => ?_)
    ·rcases h4 with h4 | h4
     ·rw [h4.1]; exact hz
     ·omega
    ·refine (Fr.of_below (below_all _ _) _).trans ⟨h3.os, h3.tape, h3.output, h3.size, fun k hk hs => h3.block k hk (fun e => hs ?_)⟩
     cases e
     rfl
    ·have : some g' = some q := hq
     cases this
     rcases h4 with h4 | h4
     ·left; rw [h4.1]; rfl
     ·right; omega
  ·have hw : Region.wanted o (yielded ops a.tmps) = true := by simp [Region.wanted, hgd]
   rw [if_pos hw]
   obtain ⟨g', cap', w', hr, h2, h3, h4⟩ := run_nil1 (w.alloc (.cells vs.toArray e)) he o.type (f := f) ⟨w.heap.size, 0, none⟩ 1 (fun j hj => by
    rw [addr_add, Nat.zero_add]
    simp only [World.cell?, hh]
    have := hnew j hj
    simpa using this) hb
   unfold Oper.wp execOp
   simp only [ho, resolve, invoke, builtin, Sem.run_bind, Sem.run_pure, Result.andThen_ok, List.map_toArray, List.map_cons, List.map_nil, hs, hx, hr]
   refine h _ w' (.inl ⟨g', cap', rfl, by omega, h2⟩) ?_ (fun q hq => ?_)
   ·exact (Fr.of_below (below_all _ _) _).trans ⟨h3.os, h3.tape, h3.output, h3.size, fun k hk _ => h3.block k hk (by simp)⟩
   ·have : some g' = some q := hq
    cases this
    right
    omega
end Go.Proofs.YtlkdmpfifpkpaaaGreatDoor

