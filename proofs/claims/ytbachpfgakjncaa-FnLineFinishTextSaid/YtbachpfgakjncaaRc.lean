/-
  Walks on a railway: line, move.
-/
import Derived.Test.YtbachpfgakjncaaRb
import Derived.Test.YtbachpfgakjncaaBv
namespace Go.Proofs.Ytbachpfgakjncaa
open Go.RowKit

/-- a line in new memory -/
def LnO (B : Nat) (w : World) (v : Value) (x : Ln) : Prop :=
  ∃ g1 c1 g2 c2, v = .agg #[.slice (some ⟨g1, 0, none⟩) x.n c1, .slice (some ⟨g2, 0, none⟩) x.m c2] ∧ Own w g1 c1 x.n 3 75 (bkF x.N x.I x.O) ∧ Own w g2 c2 x.m 1 3 (fun i => .int .i64 (x.T i)) ∧ g1 ≠ g2 ∧ B ≤ g1 ∧ B ≤ g2
theorem LnO.below {B D : Nat} {w w' : World} {v : Value} {x : Ln} (h : LnO B w v x) (hb : Below D w w') (hD : w.heap.size ≤ D) : LnO B w' v x := by
  obtain ⟨g1, c1, g2, c2, e, h1, h2, h3⟩ := h
  exact ⟨g1, c1, g2, c2, e, h1.below hb (Nat.lt_of_lt_of_le h1.lt hD), h2.below hb (Nat.lt_of_lt_of_le h2.lt hD), h3⟩
theorem LnO.mono {B D : Nat} {w : World} {v : Value} {x : Ln} (h : LnO B w v x) (hD : D ≤ B) : LnO D w v x := by
  obtain ⟨g1, c1, g2, c2, e, h1, h2, h3, h4, h5⟩ := h
  exact ⟨g1, c1, g2, c2, e, h1, h2, h3, by omega, by omega⟩
set_option linter.unusedSimpArgs false in
set_option maxHeartbeats 1000000 in
theorem line_any (r gb cb gt ct : Nat) (x : Ln) (w : World) (hn : x.n ≤ 1000000000000) (hm : x.m ≤ 1000000000000) (h : RwC w r gb cb gt ct x) :
    Calls Try.prog 52 #[.pointer (some ⟨r, 0, none⟩)] w fun e w' => ∃ v, e = .returned v ∧ LnO w.heap.size w' v x ∧ Below w.heap.size w w' := by
  have H := Lib.hid h
  have hrl := h.box.lt
  have HBB : Hid (∀ a, Below w.heap.size w (w.alloc a)) := fun a => below_all _ _
  clear h
  go_enter Try.func52, Try.ntmps52
  go_wp2_with fail
  have HM : Hid (RwC (w.alloc (.cells #[.slice none 0 0, .slice none 0 0] 26)) r gb cb gt ct x) := H.out.below (HBB.out _) (Nat.le_refl _)
  have HL : Hid (Bx (w.alloc (.cells #[.slice none 0 0, .slice none 0 0] 26)) w.heap.size 26 #[.slice none 0 0, .slice none 0 0]) := Bx.new _ _ _
  have HB := Lib.hid (HBB.out (.cells #[.slice none 0 0, .slice none 0 0] 26))
  generalize hW0 : w.alloc (.cells #[.slice none 0 0, .slice none 0 0] 26) = W0 at *
  have hz0 : W0.heap.size = w.heap.size + 1 := by rw [← hW0]; simp
  clear hW0
  have hrc := HM.out.box.cell
  refine wp_region_held_drew (S := (fun w' => w'.cell? ⟨r, 0, none⟩ = some (.slice (some ⟨gb, 0, none⟩) x.n cb) ∧ w'.cell? ⟨r, 1, none⟩ = some (.slice (some ⟨gt, 0, none⟩) x.m ct))) (by kernel_rfl) ?_ (fun hHeld => ?_)
  · try dsimp only
    go_keep
  refine wpAnyH_take (i := 0) (oi := ?_) (v := ?_) ?_ (by kernel_rfl) (by kernel_rfl) (by kernel_rfl) ?_ ?_ (by assumption) ?_
  rotate_left 2
  · simp only [List.getElem?_toArray, List.getElem?_cons_succ, List.getElem?_cons_zero]; rfl
  · exact fun _ _ _ h => h
  · first
      | (refine Or.inr ⟨?_, ?_⟩ <;> rfl)
      | (refine Or.inl ⟨?_, ?_⟩; · rfl
         intro w hSw; (try dsimp only at hSw); go_simp; (try with_reducible rfl); done)
  try simp only [Act.put, List.setIfInBounds_toArray, List.set_cons_zero, List.set_cons_succ]
  refine wpAnyH_take (i := 1) (oi := ?_) (v := ?_) ?_ (by kernel_rfl) (by kernel_rfl) (by kernel_rfl) ?_ ?_ (by assumption) ?_
  rotate_left 2
  · simp only [List.getElem?_toArray, List.getElem?_cons_succ, List.getElem?_cons_zero]; rfl
  · exact fun _ _ _ h => h
  · first
      | (refine Or.inr ⟨?_, ?_⟩ <;> rfl)
      | (refine Or.inl ⟨?_, ?_⟩; · rfl
         intro w hSw; (try dsimp only at hSw); go_simp; (try with_reducible rfl); done)
  try simp only [Act.put, List.setIfInBounds_toArray, List.set_cons_zero, List.set_cons_succ]
  refine wpAnyH_take (i := 2) (oi := ?_) (v := ?_) ?_ (by kernel_rfl) (by kernel_rfl) (by kernel_rfl) ?_ ?_ (by assumption) ?_
  rotate_left 2
  · simp only [List.getElem?_toArray, List.getElem?_cons_succ, List.getElem?_cons_zero]; rfl
  · exact fun _ _ _ h => h
  · first
      | (refine Or.inr ⟨?_, ?_⟩ <;> rfl)
      | (refine Or.inl ⟨?_, ?_⟩; · rfl
         intro w hSw; (try dsimp only at hSw); go_simp; (try with_reducible rfl); done)
  try simp only [Act.put, List.setIfInBounds_toArray, List.set_cons_zero, List.set_cons_succ]
  refine wpAnyH_take (i := 3) (oi := ?_) (v := ?_) ?_ (by kernel_rfl) (by kernel_rfl) (by kernel_rfl) ?_ ?_ (by assumption) ?_
  rotate_left 2
  · simp only [List.getElem?_toArray, List.getElem?_cons_succ, List.getElem?_cons_zero]; rfl
  · exact fun _ _ _ h => h
  · first
      | (refine Or.inr ⟨?_, ?_⟩ <;> rfl)
      | (refine Or.inl ⟨?_, ?_⟩; · rfl
         intro w hSw; (try dsimp only at hSw); go_simp; (try with_reducible rfl); done)
  try simp only [Act.put, List.setIfInBounds_toArray, List.set_cons_zero, List.set_cons_succ]
  refine wpAnyH_take (i := 5) (oi := ?_) (v := ?_) ?_ (by kernel_rfl) (by kernel_rfl) (by kernel_rfl) ?_ ?_ (by assumption) ?_
  rotate_left 2
  · simp only [List.getElem?_toArray, List.getElem?_cons_succ, List.getElem?_cons_zero]; rfl
  · exact fun _ _ _ h => h
  · first
      | (refine Or.inr ⟨?_, ?_⟩ <;> rfl)
      | (refine Or.inl ⟨?_, ?_⟩; · rfl
         intro w hSw; (try dsimp only at hSw); go_simp; (try with_reducible rfl); done)
  try simp only [Act.put, List.setIfInBounds_toArray, List.set_cons_zero, List.set_cons_succ]
  refine wpAnyH_take (i := 6) (oi := ?_) (v := ?_) ?_ (by kernel_rfl) (by kernel_rfl) (by kernel_rfl) ?_ ?_ (by assumption) ?_
  rotate_left 2
  · simp only [List.getElem?_toArray, List.getElem?_cons_succ, List.getElem?_cons_zero]; rfl
  · exact fun _ _ _ h => h
  · first
      | (refine Or.inr ⟨?_, ?_⟩ <;> rfl)
      | (refine Or.inl ⟨?_, ?_⟩; · rfl
         intro w hSw; (try dsimp only at hSw); go_simp; (try with_reducible rfl); done)
  try simp only [Act.put, List.setIfInBounds_toArray, List.set_cons_zero, List.set_cons_succ]
  refine wpAnyH_take (i := 7) (oi := ?_) (v := ?_) ?_ (by kernel_rfl) (by kernel_rfl) (by kernel_rfl) ?_ ?_ (by assumption) ?_
  rotate_left 2
  · simp only [List.getElem?_toArray, List.getElem?_cons_succ, List.getElem?_cons_zero]; rfl
  · exact fun _ _ _ h => h
  · first
      | (refine Or.inr ⟨?_, ?_⟩ <;> rfl)
      | (refine Or.inl ⟨?_, ?_⟩; · rfl
         intro w hSw; (try dsimp only at hSw); go_simp; (try with_reducible rfl); done)
  try simp only [Act.put, List.setIfInBounds_toArray, List.set_cons_zero, List.set_cons_succ]
  refine wpAnyH_take (i := 8) (oi := ?_) (v := ?_) ?_ (by kernel_rfl) (by kernel_rfl) (by kernel_rfl) ?_ ?_ (by assumption) ?_
  rotate_left 2
  · simp only [List.getElem?_toArray, List.getElem?_cons_succ, List.getElem?_cons_zero]; rfl
  · exact fun _ _ _ h => h
  · first
      | (refine Or.inr ⟨?_, ?_⟩ <;> rfl)
      | (refine Or.inl ⟨?_, ?_⟩; · rfl
         intro w hSw; (try dsimp only at hSw); go_simp; (try with_reducible rfl); done)
  try simp only [Act.put, List.setIfInBounds_toArray, List.set_cons_zero, List.set_cons_succ]
  refine wpAnyH_ready (rs := [4]) (by kernel_rfl) (by simp) ?_
  refine AllReadyH.cons (o := ?_) ?_ (fun K hK => ?_) AllReadyH.nil
  rotate_left 1
  · simp only [List.getElem?_toArray, List.getElem?_cons_succ, List.getElem?_cons_zero]; rfl
  go_simp
  go_at_call 80
  go_must (refine Calls.mono (cloneB_any gb 0 x.n cb x.N x.I x.O _ hn HM.out.bk) ?_)
  rintro e w1 ⟨g1, c1, rfl, hg1, ho1, hb1⟩
  have HO1 := Lib.hid ho1
  replace hb1 : Below W0.heap.size W0 w1 := (Below.refl _ W0).drew.trans hb1
  have HB1 := Lib.hid (HB.out.trans (hb1.mono (by omega)))
  have HM1 := Lib.hid (HM.out.below (w' := w1) hb1 (Nat.le_refl _))
  have HL1 := Lib.hid (HL.out.below (w' := w1) hb1 HL.out.lt)
  have hrc := HM1.out.box.cell
  have hz1 : W0.heap.size ≤ w1.heap.size := hb1.size
  have hg1' : w.heap.size + 1 ≤ g1 := by simp at hg1; omega
  clear ho1 hb1 hg1
  refine hK.out _ _ ?_ (fun hHeld => ?_)
  · try dsimp only
    go_keep
  clear hK K
  try simp only [Act.put, List.setIfInBounds_toArray, List.set_cons_zero, List.set_cons_succ]
  refine wpAnyH_ready (rs := [9]) (by kernel_rfl) (by simp) ?_
  refine AllReadyH.cons (o := ?_) ?_ (fun K hK => ?_) AllReadyH.nil
  rotate_left 1
  · simp only [List.getElem?_toArray, List.getElem?_cons_succ, List.getElem?_cons_zero]; rfl
  go_simp
  go_at_call 81
  go_must (refine Calls.mono (clone_any gt 0 x.m ct x.T _ hm HM1.out.ic) ?_)
  rintro e w2 ⟨g2, c2, rfl, hg2, ho2, hb2⟩
  have HO2 := Lib.hid ho2
  have HB2 := Lib.hid (HB1.out.trans (hb2.mono (by omega)))
  have HT := Lib.hid (rw_two HO1.out hb2 hg2)
  have HM2 := Lib.hid (HM1.out.below hb2 (Nat.le_refl _))
  have HL2 := Lib.hid (HL1.out.below hb2 HL1.out.lt)
  have hrc := HM2.out.box.cell
  have hlf := HL2.out.free
  have hlc := HL2.out.cell
  have hz2 : w1.heap.size ≤ w2.heap.size := hb2.size
  have hg2' : w.heap.size + 1 ≤ g2 := by omega
  have hne : r ≠ w.heap.size := by omega
  clear ho2 hb2 hg2
  refine hK.out _ _ ?_ (fun hHeld => ?_)
  · try dsimp only
    go_keep
  clear hK K
  try simp only [Act.put, List.setIfInBounds_toArray, List.set_cons_zero, List.set_cons_succ]
  refine wpAnyH_take (i := 10) (oi := ?_) (v := ?_) ?_ (by kernel_rfl) (by kernel_rfl) (by kernel_rfl) ?_ ?_ (by assumption) ?_
  rotate_left 2
  · simp only [List.getElem?_toArray, List.getElem?_cons_succ, List.getElem?_cons_zero]; rfl
  · exact fun _ _ _ h => h
  · first
      | (refine Or.inr ⟨?_, ?_⟩ <;> rfl)
      | (refine Or.inl ⟨?_, ?_⟩; · rfl
         intro w hSw; (try dsimp only at hSw); go_simp; (try with_reducible rfl); done)
  try simp only [Act.put, List.setIfInBounds_toArray, List.set_cons_zero, List.set_cons_succ]
  refine wpAnyH_ready (rs := [11]) (by kernel_rfl) (by simp) ?_
  refine AllReadyH.cons (o := ?_) ?_ (fun K hK => ?_) AllReadyH.nil
  rotate_left 1
  · simp only [List.getElem?_toArray, List.getElem?_cons_succ, List.getElem?_cons_zero]; rfl
  go_simp
  refine hK.out _ _ ?_ (fun hHeld => ?_)
  · try dsimp only
    have hk := ((HM2.out.box.setOther (a := ⟨w.heap.size, 0, none⟩) hne (.slice (some ⟨g1, 0, none⟩) x.n c1)).setOther (a := ⟨w.heap.size, 1, none⟩) hne (.slice (some ⟨g2, 0, none⟩) x.m c2)).cell
    exact ⟨hk 0, hk 1⟩
  clear hK K
  try simp only [Act.put, List.setIfInBounds_toArray, List.set_cons_zero, List.set_cons_succ]
  refine wpAnyH_done (by kernel_rfl) ?_ _
  go_wp2_with fail
  exact bodyPost_ret (v := .agg #[.slice (some ⟨g1, 0, none⟩) x.n c1, .slice (some ⟨g2, 0, none⟩) x.m c2]) (by simp [results, Try.results52, go_sem, hlc]) rfl ⟨_, rfl, ⟨g1, c1, g2, c2, rfl, (HT.out.1.setOther (by dsimp only; omega) _).setOther (by dsimp only; omega) _, (HO2.out.setOther (by dsimp only; omega) _).setOther (by dsimp only; omega) _, HT.out.2.1, by omega, by omega⟩, (HB2.out.setCell (Nat.le_refl _) _).setCell (Nat.le_refl _) _⟩
end Go.Proofs.Ytbachpfgakjncaa
