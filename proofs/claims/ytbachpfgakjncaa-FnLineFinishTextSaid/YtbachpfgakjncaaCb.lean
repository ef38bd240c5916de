/-
  The walks of slices.Clone at []Block and at blocks.
-/
import Derived.Test.YtbachpfgakjncaaBl
namespace Go.Proofs.Ytbachpfgakjncaa
open Go.RowKit

/-- the cells of a row of blocks -/
def bkF (N : Nat → Int) (I O : Nat → Bool) (i : Nat) : Value :=
  if i % 3 = 0 then .int .i64 (N (i / 3)) else if i % 3 = 1 then .bool (I (i / 3)) else .bool (O (i / 3))
theorem elBk : Elem Try.prog 23 75 (.agg #[.int .i64 0, .bool false, .bool false]) 3 16 := ⟨Try.underlying23, by kernel_rfl, rfl, by decide⟩
theorem elBks : Elem Try.prog 99 75 (.agg #[.int .i64 0, .bool false, .bool false]) 3 16 := ⟨Try.underlying99, by kernel_rfl, rfl, by decide⟩
theorem bkF_one (N : Nat → Int) (I O : Nat → Bool) (i : Nat) : (bkF N I O i).oneCell' = true := by
  unfold bkF
  split
  · rfl
  · split <;> rfl
theorem bk_new {w : World} {b off n : Nat} {N : Nat → Int} {I O : Nat → Bool} (h : BkC w b off n N I O) : ∀ j, j < n * 3 → w.cell? ((⟨b, off, none⟩ : Addr).add j) = some (bkF N I O (0 * 3 + j)) := by
  intro j hj
  obtain ⟨h0, h1, h2⟩ := h (j / 3) (by omega)
  rw [addr_add, Nat.zero_mul, Nat.zero_add]
  unfold bkF
  by_cases e0 : j % 3 = 0
  · rw [if_pos e0, ← h0, show off + j / 3 * 3 = off + j by omega]
  · rw [if_neg e0]
    by_cases e1 : j % 3 = 1
    · rw [if_pos e1, ← h1, show off + j / 3 * 3 + 1 = off + j by omega]
    · rw [if_neg e1, ← h2, show off + j / 3 * 3 + 2 = off + j by omega]
theorem BkC.of_own {w : World} {g cap n : Nat} {N : Nat → Int} {I O : Nat → Bool} {t : TypeId} (h : Own w g cap n 3 t (bkF N I O)) : BkC w g 0 n N I O := fun k hk => by
  have h0 := h.cell (i := k * 3) (by omega)
  have h1 := h.cell (i := k * 3 + 1) (by omega)
  have h2 := h.cell (i := k * 3 + 2) (by omega)
  rw [Nat.zero_add]
  refine ⟨?_, ?_, ?_⟩
  · rw [h0]; unfold bkF; rw [if_pos (by omega), show k * 3 / 3 = k by omega]
  · rw [h1]; unfold bkF; rw [if_neg (by omega), if_pos (by omega), show (k * 3 + 1) / 3 = k by omega]
  · rw [h2]; unfold bkF; rw [if_neg (by omega), if_neg (by omega), show (k * 3 + 2) / 3 = k by omega]
theorem cloneB_any (b off n c : Nat) (N : Nat → Int) (I O : Nat → Bool) (w : World) (hn : n ≤ 1000000000000) (hc : BkC w b off n N I O) :
    Calls Try.prog 80 #[.slice (some ⟨b, off, none⟩) n c] w fun e w' => ∃ g c', e = .returned (.slice (some ⟨g, 0, none⟩) n c') ∧ w.heap.size ≤ g ∧ Own w' g c' n 3 75 (bkF N I O) ∧ Below w.heap.size w w' := by
  have hnil := fun w => Lib.run_eql_slice_nil (P := Try.prog) w 23 75 (some ⟨b, off, none⟩) n c 0 0 Try.underlying23
  have hbb : ∀ a, Below w.heap.size w (w.alloc a) := fun a => (Below.refl _ _).alloc (Nat.le_refl _) _
  have hb : b < w.heap.size ∨ n = 0 := by
    rcases Nat.eq_zero_or_pos n with h | h
    · exact Or.inr h
    · exact Or.inl (World.block_lt_of_cell? w ⟨b, off + 0 * 3, none⟩ (hc 0 h).1)
  have HC : Hid (∀ a, BkC (w.alloc a) b off n N I O) := fun a => by
    rcases hb with hb | hb
    · exact hc.below (hbb a) hb
    · intro k hk; omega
  clear hc hb
  go_enter Try.func80, Try.ntmps80
  go_wp2_with (at_builtin; refine wpList_app elBk rfl (.tmp 5) (.tmp 6) rfl (own_empty w 3 _ (bkF N I O)) rfl ⟨b, off, none⟩ n c rfl (bk_new (HC.out _)) (fun _ _ => bkF_one _ _ _ _) (by unfold maxLen; omega) (by omega) ?_; intro g' c' wa HA hgr hd)
  have z := hgr.size
  rw [World.size_alloc] at z hd
  have hle : w.heap.size ≤ g' := by omega
  have hbl := (hbb (.cells #[] 75)).trans (below_of_grown hgr (Nat.le_refl _) (by simp))
  rw [Nat.zero_add] at HA
  have HO := Lib.hid HA
  have HBL := Lib.hid hbl
  clear HA hbl hgr hd
  go_wp2_with fail
  go_ret
  exact ⟨g', c', by simp, hle, HO.out, HBL.out⟩
theorem cloneBs_any (b off n c : Nat) (N : Nat → Int) (I O : Nat → Bool) (w : World) (hn : n ≤ 1000000000000) (hc : BkC w b off n N I O) :
    Calls Try.prog 94 #[.slice (some ⟨b, off, none⟩) n c] w fun e w' => ∃ g c', e = .returned (.slice (some ⟨g, 0, none⟩) n c') ∧ w.heap.size ≤ g ∧ Own w' g c' n 3 75 (bkF N I O) ∧ Below w.heap.size w w' := by
  have hnil := fun w => Lib.run_eql_slice_nil (P := Try.prog) w 99 75 (some ⟨b, off, none⟩) n c 0 0 Try.underlying99
  have hbb : ∀ a, Below w.heap.size w (w.alloc a) := fun a => (Below.refl _ _).alloc (Nat.le_refl _) _
  have hb : b < w.heap.size ∨ n = 0 := by
    rcases Nat.eq_zero_or_pos n with h | h
    · exact Or.inr h
    · exact Or.inl (World.block_lt_of_cell? w ⟨b, off + 0 * 3, none⟩ (hc 0 h).1)
  have HC : Hid (∀ a, BkC (w.alloc a) b off n N I O) := fun a => by
    rcases hb with hb | hb
    · exact hc.below (hbb a) hb
    · intro k hk; omega
  clear hc hb
  go_enter Try.func94, Try.ntmps94
  go_wp2_with (at_builtin; refine wpList_app elBks rfl (.tmp 5) (.tmp 6) rfl (own_empty w 3 _ (bkF N I O)) rfl ⟨b, off, none⟩ n c rfl (bk_new (HC.out _)) (fun _ _ => bkF_one _ _ _ _) (by unfold maxLen; omega) (by omega) ?_; intro g' c' wa HA hgr hd)
  have z := hgr.size
  rw [World.size_alloc] at z hd
  have hle : w.heap.size ≤ g' := by omega
  have hbl := (hbb (.cells #[] 75)).trans (below_of_grown hgr (Nat.le_refl _) (by simp))
  rw [Nat.zero_add] at HA
  have HO := Lib.hid HA
  have HBL := Lib.hid hbl
  clear HA hbl hgr hd
  go_wp2_with fail
  go_ret
  exact ⟨g', c', by simp, hle, HO.out, HBL.out⟩
end Go.Proofs.Ytbachpfgakjncaa
