/-
  Parts of the proof of fnExecuteFit_proved: Yh Ie Yj Ig Jv Jw Jx Jy Ia Ib Ih Yk. No condition.
-/
import Derived.Test.YtlkdmpfifpkpaaaGreatDoorChecked
import Derived.Laws.BitsAllLaws
import Derived.Deep.QuietTactic
import Derived.BigQuiet
import Derived.Lib.Builder
import Derived.Lib.AppendStr
import Derived.Lib.UnsafeStr
import Derived.Lib.Strings
import Derived.Lib.Slices
import Derived.Laws.Externs
import Derived.Shelf.RegionOpen
import Derived.Maps.AppendAt
import Derived.RangeFuncNested
import Derived.RangeFuncBound
import Derived.RangeFuncCalls
import Derived.RangeFuncLeaves
import Derived.RangeFuncBox
import Derived.Shelf.Abstract
import Derived.OwnWalkIn
import Derived.TacticsInMore
import Derived.LoopNIn
import Derived.LoopIn
import Derived.WalkLawsBesides
import Derived.Lib.SplitLaws
import Derived.Recover
import Derived.Defers
import Derived.Lib.SlBytesRow
import Derived.Lib.ItoaLen
import Derived.Lib.ItoaMem
import Derived.Lib.AppendIntMem
import Derived.Deep.DeepCutAuto
import Derived.Deep.DrawnRows
import Derived.StillTailTactics
import Derived.OrdersIn
import Derived.OrdersHeld
import Derived.Deep.RegionHeld
import Derived.Deep.RegionWith
import Derived.Shelf.Strings.Builder1
import Derived.Shelf.Strings.Builder2
import Derived.Shelf.Strings.OnBuilder
import Derived.Shelf.Strings.BuilderF
import Derived.Shelf.Strconv.Itoa0
import Derived.Shelf.Strconv.Itoa1
import Derived.Shelf.LaysM
import Derived.Shelf.Strconv.Itoa2
import Derived.Shelf.Strconv.Itoa3
import Derived.Shelf.Strings.Search1
import Derived.Shelf.Strings.Search2
import Derived.Shelf.Strings.Search3
import Derived.Shelf.Strings.Count
import Derived.Shelf.Strings.Shaped
import Derived.Shelf.Strings.Split
import Derived.Shelf.Strings.SplitShaped
import Derived.Shelf.Unicode.DecodeSlow
import Derived.Test.YtlkdmpfifpkpaaaGreatDoorProg
import Derived.Lib.IndexLaws
import Derived.WalkKit
import Derived.WalkSpells
import Derived.Lib.Hide
import Derived.Deep.RegionHeld3
import Derived.Deep.DeepFit
import Derived.Lib.IndexBytes
import Derived.Laws.IdiomStrings
import Derived.Test.YtlkdmpfifpkpaaaGreatDoorU01
import Derived.Test.YtlkdmpfifpkpaaaGreatDoorU02
import Derived.Test.YtlkdmpfifpkpaaaGreatDoorU03
import Derived.Test.YtlkdmpfifpkpaaaGreatDoorU04
import Derived.Test.YtlkdmpfifpkpaaaGreatDoorU05
import Derived.Test.YtlkdmpfifpkpaaaGreatDoorU06
import Derived.Test.YtlkdmpfifpkpaaaGreatDoorU07
import Derived.Test.YtlkdmpfifpkpaaaGreatDoorU08
import Derived.Test.YtlkdmpfifpkpaaaGreatDoorU09
namespace Go.Proofs.YtlkdmpfifpkpaaaGreatDoor
open Go.RowKit

/-- the minutes for which the first paths are in a section -/
def byF (ps : List Pt) (k : Nat) : Nat → Int
  | 0 => 0
  | j + 1 => byF ps k j + ((pA ps j).O k - (pA ps j).I k)
def byV (ps : List Pt) (n : Nat) (k : Int) : Int := if 0 ≤ k ∧ k < n then byF ps k.toNat ps.length else -1
theorem ptOk_at {p : Pt} {n k : Nat} (h : ptOk p n = true) (hk : k < n) : 0 ≤ p.I k ∧ p.I k < p.O k ∧ p.O k ≤ 2000 := by
  obtain ⟨_, e1, _, h3⟩ := ptOk_parts h
  have h4 := vk_bd k (fun j hj => h3 j (by omega))
  have h5 := vkB_true.1 (h3 k (by omega))
  omega
theorem byF_bd {ps : List Pt} {n k : Nat} (h : PsOk n ps) (hk : k < n) : ∀ j, j ≤ ps.length → 0 ≤ byF ps k j ∧ byF ps k j ≤ 2000 * j
  | 0, _ => ⟨Int.le_refl _, Int.le_refl _⟩
  | j + 1, hj => by
    have ih := byF_bd h hk j (by omega)
    have h1 := ptOk_at (h.ok j (by omega)) hk
    simp only [byF]
    omega
set_option linter.unusedSimpArgs false in
set_option maxRecDepth 100000 in
set_option maxHeartbeats 4000000 in
theorem pathsBusy_any (ao : Option Addr) (c n : Nat) (k : Int) (ps : List Pt) (w : World) (hk : PsOk n ps) (hv : PsV w ao ps) :
    Calls Tryz.prog 130 #[.int .i64 n, .slice ao ps.length c, .int .i64 k] w fun e w' => e = .returned (.int .i64 (byV ps n k)) ∧ Below w.heap.size w w' := by
  have HHS := Lib.hid (hasSection_ok ao c n k ps w hk hv)
  have HK := Lib.hid hk
  have HV := Lib.hid hv
  have hlen := hk.len
  clear hk hv
  by_cases hin : 0 ≤ k ∧ k < n
  · obtain ⟨k, rfl⟩ := Int.eq_ofNat_of_zero_le hin.1
    have hkn : k < n := by omega
    have HN : Hid (byV ps n (k : Int) = byF ps k ps.length) := by show _ = _; unfold byV; rw [if_pos hin]; rfl
    rw [decide_eq_true hin.1, decide_eq_true hin.2, Bool.true_and] at HHS
    have HBF : Hid (∀ j, j ≤ ps.length → 0 ≤ byF ps k j ∧ byF ps k j ≤ 2000 * j) := byF_bd HK.out hkn
    clear hin
    go_enter Tryz.func130, Tryz.ntmps130
    go_wp2_with fail
    refine HHS.out.mono ?_
    rintro e w2 ⟨rfl, hb2⟩
    have HB2 := Lib.hid hb2
    clear hb2
    go_wp2_with fail
    go_loopw [7, 8, 16] (fun s _ i wr => ∃ j : Nat, j ≤ ps.length ∧ i = .int .i64 j ∧ s = .int .i64 (byF ps k j) ∧ Dr w2 wr) (fun _ _ i _ => ps.length - (intOf i).toNat)
    case atStart => exact ⟨0, Nat.zero_le _, rfl, rfl, Dr.refl _⟩
    case round =>
      obtain ⟨j, hj, rfl, rfl, d, rfl⟩ := hrel
      have hbj := HBF.out j hj
      by_cases hlt : j < ps.length
      · have hji : (j : Int) < (ps.length : Int) := by omega
        obtain ⟨b, bi, ci, bo, co, rfl, hp0⟩ := HV.out j hlt
        have hp := hp0.keep HB2.out
        obtain ⟨_, e1, e2, _⟩ := ptOk_parts (HK.out.ok j hlt)
        have hat := ptOk_at (HK.out.ok j hlt) hkn
        have c0 := hp.c0
        have c1 := hp.c1
        have cI := hp.I.at k (by omega)
        have cO := hp.O.at k (by omega)
        rw [Nat.zero_add] at cI cO
        have i1 : (k : Int) < ((pA ps j).ni : Int) := by omega
        have i2 : (k : Int) < ((pA ps j).no : Int) := by omega
        have HS : Hid (byF ps k (j + 1) = byF ps k j + ((pA ps j).O k - (pA ps j).I k)) := rfl
        clear hp hp0 e1 e2
        generalize (pA ps j).I k = x1 at *
        generalize (pA ps j).O k = x2 at *
        have hw1 : IntKind.i64.wrap (x2 - x1) = x2 - x1 := IntWalk.i64_in _ (by omega)
        have hw2 : IntKind.i64.wrap (byF ps k j + (x2 - x1)) = byF ps k j + (x2 - x1) := IntWalk.i64_in _ (by omega)
        go_wp2_with fail
        go_quiet (fail)
        go_wp2_with fail
        go_roundw
        case rel => exact ⟨j + 1, by omega, by go_num, by rw [HS.out], (by repeat (first | exact Dr.refl _ | exact ⟨_, rfl⟩ | refine Dr.drewN ?_ _))⟩
        case measure => simp [intOf]; omega
      · obtain rfl : j = ps.length := by omega
        go_wp2_with fail
        go_ret
        exact ⟨by rw [HN.out]; rfl, below_drewN HB2.out d⟩
  · have HN : Hid (byV ps n k = -1) := by show _ = _; unfold byV; rw [if_neg hin]
    have hd : (decide (0 ≤ k) && decide (k < (n : Int))) = false := by
      cases h : (decide (0 ≤ k) && decide (k < (n : Int)))
      · rfl
      · rw [Bool.and_eq_true] at h
        exact absurd ⟨of_decide_eq_true h.1, of_decide_eq_true h.2⟩ hin
    rw [hd] at HHS
    clear hin hd
    go_enter Tryz.func130, Tryz.ntmps130
    go_wp2_with fail
    refine HHS.out.mono ?_
    rintro e w2 ⟨rfl, hb2⟩
    have HB2 := Lib.hid hb2
    clear hb2
    go_wp2_with fail
    go_ret
    exact ⟨by rw [HN.out]; rfl, HB2.out⟩
/-- what busy says -/
def byO (st : Ses) (ps : List Pt) (l : ByteArray) : ByteArray := if byV ps st.x.n (nmF l) < 0 then noT else itT (byV ps st.x.n (nmF l))
theorem byV_bd {ps : List Pt} {n : Nat} {k : Int} (h : PsOk n ps) : -1 ≤ byV ps n k ∧ byV ps n k ≤ 16000 := by
  unfold byV
  split
  · rename_i hk
    have h1 := byF_bd h (k := k.toNat) (by omega) ps.length (Nat.le_refl _)
    have := h.len
    omega
  · omega
set_option linter.unusedSimpArgs false in
set_option maxRecDepth 100000 in
set_option maxHeartbeats 4000000 in
theorem doBusy_any (z s bw n c : Nat) (l : ByteArray) (m : Int) (st : Ses) (ps : List Pt) (own : Nat → Prop) (w : World) (hn : 2 ≤ n) (hW : WF m w) (hS : StP z st ps own w s) (hk : PsOk st.x.n ps) (hw1 : w.cell? ⟨bw, 1, none⟩ = some (.string l)) :
    Calls Tryz.prog 104 #[.pointer (some ⟨s, 0, none⟩), .slice (some ⟨bw, 0, none⟩) n c] w (MdP z st ps (byO st ps l) s own w) := by
  have HS := Lib.hid hS
  have HWF := Lib.hid hW
  have hnm := nmF_bd l
  have hn1 : (1 : Int) < (n : Int) := by omega
  have hbl : bw < w.heap.size := World.block_lt_of_cell? w ⟨bw, 1, none⟩ hw1
  obtain ⟨pa, pc, own1, O, ⟨g1, c1, g2, c2, vm, vt, h1, _⟩, hr, _, _⟩ := hS
  have HBX := Lib.hid h1.box
  have HCC : Hid (∀ W, Below w.heap.size w W → (W.cell? ⟨s, 0, none⟩ = some (.slice (some ⟨g1, 0, none⟩) st.x.n c1) ∧ W.cell? ⟨s, 2, none⟩ = some (.slice pa ps.length pc)) ∧ W.cell? ⟨bw, 1, none⟩ = some (.string l)) := fun W h => ⟨⟨(HBX.out.below h HBX.out.lt).cell 0, (HBX.out.below h HBX.out.lt).cell 2⟩, by rw [h.cell (p := ⟨bw, 1, none⟩) hbl]; exact hw1⟩
  have HPB : Hid (∀ W, Below w.heap.size w W → Calls Tryz.prog 130 #[.int .i64 st.x.n, .slice pa ps.length pc, .int .i64 (nmF l)] W fun e w' => e = .returned (.int .i64 (byV ps st.x.n (nmF l))) ∧ Below W.heap.size W w') := fun W h => pathsBusy_any pa pc st.x.n (nmF l) ps W hk (hr.psv.keep h)
  have hbd := byV_bd hk (k := nmF l)
  have HBO : Hid (byO st ps l = if byV ps st.x.n (nmF l) < 0 then noT else itT (byV ps st.x.n (nmF l))) := rfl
  have HNU : Hid (∀ W, Calls Tryz.prog 120 #[.string l] W fun e w' => e = .returned (.int .i64 (nmF l)) ∧ W = w') := fun W => numberOf_any l W
  have HBd : Hid (Below w.heap.size w w.drew) := (Below.refl _ _).drew
  clear h1 hr hk hw1 hW
  generalize byV ps st.x.n (nmF l) = bv at *
  generalize nmF l = nl at *
  go_enter Tryz.func104, Tryz.ntmps104
  go_wp2_with fail
  refine wp_region_held_drew (S := fun W => (W.cell? ⟨s, 0, none⟩ = some (.slice (some ⟨g1, 0, none⟩) st.x.n c1) ∧ W.cell? ⟨s, 2, none⟩ = some (.slice pa ps.length pc)) ∧ W.cell? ⟨bw, 1, none⟩ = some (.string l)) (by kernel_rfl) (HCC.out _ HBd.out) (fun hHeld => ?_)
  refine wpAnyH_take (i := 0) (oi := ?_) (v := ?_) ?_ (by kernel_rfl) (by kernel_rfl) (by kernel_rfl) ?_ ?_ (by assumption) ?_
  rotate_left 2
  · simp only [List.getElem?_toArray, List.getElem?_cons_succ, List.getElem?_cons_zero]; rfl
  · exact fun _ _ _ h => h
  · first
      | (refine Or.inr ⟨?_, ?_⟩ <;> rfl)
      | (refine Or.inl ⟨?_, ?_⟩; · rfl
         intro w hSw; (try dsimp only at hSw); go_simp; (try with_reducible rfl); done)
  try simp only [Act.put, List.setIfInBounds_toArray, List.set_cons_zero, List.set_cons_succ]
  refine wpAnyH_take (i := 1) (oi := ?_) (v := ?_) ?_ (by kernel_rfl) (by kernel_rfl) (by kernel_rfl) ?_ ?_ (by assumption) ?_
  rotate_left 2
  · simp only [List.getElem?_toArray, List.getElem?_cons_succ, List.getElem?_cons_zero]; rfl
  · exact fun _ _ _ h => h
  · first
      | (refine Or.inr ⟨?_, ?_⟩ <;> rfl)
      | (refine Or.inl ⟨?_, ?_⟩; · rfl
         intro w hSw; (try dsimp only at hSw); go_simp; (try with_reducible rfl); done)
  try simp only [Act.put, List.setIfInBounds_toArray, List.set_cons_zero, List.set_cons_succ]
  refine wpAnyH_take (i := 2) (oi := ?_) (v := ?_) ?_ (by kernel_rfl) (by kernel_rfl) (by kernel_rfl) ?_ ?_ (by assumption) ?_
  rotate_left 2
  · simp only [List.getElem?_toArray, List.getElem?_cons_succ, List.getElem?_cons_zero]; rfl
  · exact fun _ _ _ h => h
  · first
      | (refine Or.inr ⟨?_, ?_⟩ <;> rfl)
      | (refine Or.inl ⟨?_, ?_⟩; · rfl
         intro w hSw; (try dsimp only at hSw); go_simp; (try with_reducible rfl); done)
  try simp only [Act.put, List.setIfInBounds_toArray, List.set_cons_zero, List.set_cons_succ]
  refine wpAnyH_take (i := 3) (oi := ?_) (v := ?_) ?_ (by kernel_rfl) (by kernel_rfl) (by kernel_rfl) ?_ ?_ (by assumption) ?_
  rotate_left 2
  · simp only [List.getElem?_toArray, List.getElem?_cons_succ, List.getElem?_cons_zero]; rfl
  · exact fun _ _ _ h => h
  · first
      | (refine Or.inr ⟨?_, ?_⟩ <;> rfl)
      | (refine Or.inl ⟨?_, ?_⟩; · rfl
         intro w hSw; (try dsimp only at hSw); go_simp; (try with_reducible rfl); done)
  try simp only [Act.put, List.setIfInBounds_toArray, List.set_cons_zero, List.set_cons_succ]
  refine wpAnyH_take (i := 4) (oi := ?_) (v := ?_) ?_ (by kernel_rfl) (by kernel_rfl) (by kernel_rfl) ?_ ?_ (by assumption) ?_
  rotate_left 2
  · simp only [List.getElem?_toArray, List.getElem?_cons_succ, List.getElem?_cons_zero]; rfl
  · exact fun _ _ _ h => h
  · first
      | (refine Or.inr ⟨?_, ?_⟩ <;> rfl)
      | (refine Or.inl ⟨?_, ?_⟩; · rfl
         intro w hSw; (try dsimp only at hSw); go_simp; (try with_reducible rfl); done)
  try simp only [Act.put, List.setIfInBounds_toArray, List.set_cons_zero, List.set_cons_succ]
  refine wpAnyH_take (i := 5) (oi := ?_) (v := ?_) ?_ (by kernel_rfl) (by kernel_rfl) (by kernel_rfl) ?_ ?_ (by assumption) ?_
  rotate_left 2
  · simp only [List.getElem?_toArray, List.getElem?_cons_succ, List.getElem?_cons_zero]; rfl
  · exact fun _ _ _ h => h
  · first
      | (refine Or.inr ⟨?_, ?_⟩ <;> rfl)
      | (refine Or.inl ⟨?_, ?_⟩; · rfl
         intro w hSw; (try dsimp only at hSw); go_simp; (try with_reducible rfl); done)
  try simp only [Act.put, List.setIfInBounds_toArray, List.set_cons_zero, List.set_cons_succ]
  refine wpAnyH_take (i := 6) (oi := ?_) (v := ?_) ?_ (by kernel_rfl) (by kernel_rfl) (by kernel_rfl) ?_ ?_ (by assumption) ?_
  rotate_left 2
  · simp only [List.getElem?_toArray, List.getElem?_cons_succ, List.getElem?_cons_zero]; rfl
  · exact fun _ _ _ h => h
  · first
      | (refine Or.inr ⟨?_, ?_⟩ <;> rfl)
      | (refine Or.inl ⟨?_, ?_⟩; · rfl
         intro w hSw; (try dsimp only at hSw); go_simp; (try with_reducible rfl); done)
  try simp only [Act.put, List.setIfInBounds_toArray, List.set_cons_zero, List.set_cons_succ]
  refine wpAnyH_take (i := 7) (oi := ?_) (v := ?_) ?_ (by kernel_rfl) (by kernel_rfl) (by kernel_rfl) ?_ ?_ (by assumption) ?_
  rotate_left 2
  · simp only [List.getElem?_toArray, List.getElem?_cons_succ, List.getElem?_cons_zero]; rfl
  · exact fun _ _ _ h => h
  · first
      | (refine Or.inr ⟨?_, ?_⟩ <;> rfl)
      | (refine Or.inl ⟨?_, ?_⟩; · rfl
         intro w hSw; (try dsimp only at hSw); go_simp; (try with_reducible rfl); done)
  try simp only [Act.put, List.setIfInBounds_toArray, List.set_cons_zero, List.set_cons_succ]
  refine wpAnyH_take (i := 8) (oi := ?_) (v := ?_) ?_ (by kernel_rfl) (by kernel_rfl) (by kernel_rfl) ?_ ?_ (by assumption) ?_
  rotate_left 2
  · simp only [List.getElem?_toArray, List.getElem?_cons_succ, List.getElem?_cons_zero]; rfl
  · exact fun _ _ _ h => h
  · first
      | (refine Or.inr ⟨?_, ?_⟩ <;> rfl)
      | (refine Or.inl ⟨?_, ?_⟩; · rfl
         intro w hSw; (try dsimp only at hSw); go_simp; (try with_reducible rfl); done)
  try simp only [Act.put, List.setIfInBounds_toArray, List.set_cons_zero, List.set_cons_succ]
  refine wpAnyH_take (i := 9) (oi := ?_) (v := ?_) ?_ (by kernel_rfl) (by kernel_rfl) (by kernel_rfl) ?_ ?_ (by assumption) ?_
  rotate_left 2
  · simp only [List.getElem?_toArray, List.getElem?_cons_succ, List.getElem?_cons_zero]; rfl
  · exact fun _ _ _ h => h
  · first
      | (refine Or.inr ⟨?_, ?_⟩ <;> rfl)
      | (refine Or.inl ⟨?_, ?_⟩; · rfl
         intro w hSw; (try dsimp only at hSw); go_simp; (try with_reducible rfl); done)
  try simp only [Act.put, List.setIfInBounds_toArray, List.set_cons_zero, List.set_cons_succ]
  refine wpAnyH_take (i := 10) (oi := ?_) (v := ?_) ?_ (by kernel_rfl) (by kernel_rfl) (by kernel_rfl) ?_ ?_ (by assumption) ?_
  rotate_left 2
  · simp only [List.getElem?_toArray, List.getElem?_cons_succ, List.getElem?_cons_zero]; rfl
  · exact fun _ _ _ h => h
  · first
      | (refine Or.inr ⟨?_, ?_⟩ <;> rfl)
      | (refine Or.inl ⟨?_, ?_⟩; · rfl
         intro w hSw; (try dsimp only at hSw); go_simp; (try with_reducible rfl); done)
  try simp only [Act.put, List.setIfInBounds_toArray, List.set_cons_zero, List.set_cons_succ]
  refine wpAnyH_take (i := 11) (oi := ?_) (v := ?_) ?_ (by kernel_rfl) (by kernel_rfl) (by kernel_rfl) ?_ ?_ (by assumption) ?_
  rotate_left 2
  · simp only [List.getElem?_toArray, List.getElem?_cons_succ, List.getElem?_cons_zero]; rfl
  · exact fun _ _ _ h => h
  · first
      | (refine Or.inr ⟨?_, ?_⟩ <;> rfl)
      | (refine Or.inl ⟨?_, ?_⟩; · rfl
         intro w hSw; (try dsimp only at hSw); go_simp; (try with_reducible rfl); done)
  try simp only [Act.put, List.setIfInBounds_toArray, List.set_cons_zero, List.set_cons_succ]
  refine wpAnyH_take (i := 12) (oi := ?_) (v := ?_) ?_ (by kernel_rfl) (by kernel_rfl) (by kernel_rfl) ?_ ?_ (by assumption) ?_
  rotate_left 2
  · simp only [List.getElem?_toArray, List.getElem?_cons_succ, List.getElem?_cons_zero]; rfl
  · exact fun _ _ _ h => h
  · first
      | (refine Or.inr ⟨?_, ?_⟩ <;> rfl)
      | (refine Or.inl ⟨?_, ?_⟩; · rfl
         intro w hSw; (try dsimp only at hSw); go_simp; (try with_reducible rfl); done)
  try simp only [Act.put, List.setIfInBounds_toArray, List.set_cons_zero, List.set_cons_succ]
  refine wpAnyH_ready (rs := [13]) (by kernel_rfl) (by simp) ?_
  refine AllReadyH.cons (o := ?_) ?_ (fun K hK => ?_) AllReadyH.nil
  rotate_left 1
  · simp only [List.getElem?_toArray, List.getElem?_cons_succ, List.getElem?_cons_zero]; rfl
  go_simp
  go_at_call 120
  go_must (refine Calls.mono (HNU.out _) ?_)
  rintro e w' ⟨rfl, rfl⟩
  refine hK.out _ _ ?_ (fun hHeld => ?_)
  · try dsimp only
    exact HCC.out _ HBd.out
  clear hK K
  try simp only [Act.put, List.setIfInBounds_toArray, List.set_cons_zero, List.set_cons_succ]
  refine wpAnyH_ready (rs := [14]) (by kernel_rfl) (by simp) ?_
  refine AllReadyH.cons (o := ?_) ?_ (fun K hK => ?_) AllReadyH.nil
  rotate_left 1
  · simp only [List.getElem?_toArray, List.getElem?_cons_succ, List.getElem?_cons_zero]; rfl
  go_simp
  go_at_call 130
  go_must (refine Calls.mono (HPB.out _ HBd.out) ?_)
  rintro e w2 ⟨rfl, hb2⟩
  have HB2 := Lib.hid (HBd.out.trans (hb2.mono HBd.out.size))
  clear hb2
  refine hK.out _ _ ?_ (fun hHeld => ?_)
  · try dsimp only
    exact HCC.out _ HB2.out
  clear hK K
  try simp only [Act.put, List.setIfInBounds_toArray, List.set_cons_zero, List.set_cons_succ]
  refine wpAnyH_take (i := 15) (oi := ?_) (v := ?_) ?_ (by kernel_rfl) (by kernel_rfl) (by kernel_rfl) ?_ ?_ (by assumption) ?_
  rotate_left 2
  · simp only [List.getElem?_toArray, List.getElem?_cons_succ, List.getElem?_cons_zero]; rfl
  · exact fun _ _ _ h => h
  · first
      | (refine Or.inr ⟨?_, ?_⟩ <;> rfl)
      | (refine Or.inl ⟨?_, ?_⟩; · rfl
         intro w hSw; (try dsimp only at hSw); go_simp; (try with_reducible rfl); done)
  try simp only [Act.put, List.setIfInBounds_toArray, List.set_cons_zero, List.set_cons_succ]
  refine wpAnyH_done (by kernel_rfl) ?_ _
  clear hHeld
  by_cases hneg : bv < 0
  · have HE : Hid (byO st ps l = noT) := by show _ = _; rw [HBO.out, if_pos hneg]
    go_wp2_with fail
    go_ret
    exact MdP.same HS.out (by rw [HE.out]; rfl) HB2.out
  · have HE : Hid (byO st ps l = itT bv) := by show _ = _; rw [HBO.out, if_neg hneg]
    go_wp2_with fail
    refine (itoa_any bv (by omega) (by omega) _ (HWF.out.below HB2.out)).mono ?_
    rintro e w3 ⟨rfl, hb3⟩
    have HB3 := Lib.hid (HB2.out.trans (hb3.mono HB2.out.size))
    clear hb3
    go_wp2_with fail
    go_ret
    exact MdP.same HS.out (by rw [HE.out]; rfl) HB3.out
end Go.Proofs.YtlkdmpfifpkpaaaGreatDoor
namespace Go.Proofs.YtlkdmpfifpkpaaaGreatDoor
open Go.RowKit

/-- numbers with spaces between -/
def spT (f : Nat → Int) (n : Nat) : ByteArray := jnT (fun i => itT (f i)) n
set_option linter.unusedSimpArgs false in
set_option maxRecDepth 100000 in
set_option maxHeartbeats 4000000 in
theorem spaced_any (b off n c : Nat) (f : Nat → Int) (m : Int) (w : World) (hW : WF m w) (hn : n ≤ 1000) (hf : ∀ k, k < n → -1000000 ≤ f k ∧ f k ≤ 1000000) (h : IC w b off n f) :
    Calls Tryz.prog 125 #[.slice (some ⟨b, off, none⟩) n c] w fun e w' => e = .returned (.string (spT f n)) ∧ Below w.heap.size w w' := by
  have hmk := fun w => run_mk0 elStr n (by omega) (by omega) w
  have HWF := Lib.hid hW
  have HF := Lib.hid hf
  have HC := Lib.hid h
  have HI0 : Hid (TdI w (w.alloc (.cells (madeCells #[.string ⟨#[]⟩] (n * 1)) 9)) w.heap.size n 0 (fun i => itT (f i))) := ⟨own_made _ _ _ _ _ _ (by unfold maxLen; omega), Nat.le_refl _, below_all _ _⟩
  clear hW hf h
  go_enter Tryz.func125, Tryz.ntmps125
  go_wp2_with fail
  go_loopw [3, 5, 11] (fun o _ i wr => ∃ j g cap : Nat, j ≤ n ∧ i = .int .i64 j ∧ o = .slice (some ⟨g, 0, none⟩) j cap ∧ Hid (TdI w wr g cap j (fun i => itT (f i)))) (fun _ _ i _ => n - (intOf i).toNat)
  case atStart => exact ⟨0, w.heap.size, n, Nat.zero_le _, rfl, rfl, by simpa using HI0⟩
  case round =>
    obtain ⟨j, g, cap, hj, rfl, rfl, HI⟩ := hrel
    by_cases hlt : j < n
    · have hji : (j : Int) < (n : Int) := by omega
      have hck := (HC.out.keep HI.out.bl).at j hlt
      have HFJ := Lib.hid (HF.out j hlt)
      generalize hfj : f j = fj at *
      go_wp2_with fail
      refine (itoa_any fj (by have := HFJ.out; omega) (by have := HFJ.out; omega) _ (HWF.out.below HI.out.bl)).mono ?_
      rintro e w2 ⟨rfl, hb2⟩
      have HI2 := Lib.hid (HI.out.keep hb2)
      clear hb2 hck
      go_wp2_with (at_builtin; refine wpList_pushV elStr rfl (.tmp 15) (.tmp 18) (by rfl) (f := fun i => .string (itT (f i))) HI2.out.ow (by rfl) (by rfl) (by rw [hfj]) rfl (by omega) (by omega) ?_; intro g' c' wa HA hgr hd; have HI3 := Lib.hid (HI2.out.push HA hgr (hd.imp And.left Nat.le_of_lt)); clear HA hgr hd)
      go_roundw
      case rel => exact ⟨j + 1, g', c', by omega, by go_num, by simp, HI3⟩
      case measure => simp [intOf]; omega
    · obtain rfl : j = n := by omega
      have HJ := Lib.hid (join_any g cap j (fun i => itT (f i)) wr (by omega) (fun i hi => by have := HF.out i hi; have := itT_size (f i) (by omega) (by omega); omega) HI.out.ow)
      go_wp2_with fail
      refine HJ.out.mono ?_
      rintro e w3 ⟨rfl, hb3⟩
      have HB3 := Lib.hid (HI.out.bl.trans (hb3.mono HI.out.bl.size))
      clear hb3
      go_wp2_with fail
      go_ret
      exact ⟨rfl, HB3.out⟩
end Go.Proofs.YtlkdmpfifpkpaaaGreatDoor
namespace Go.Proofs.YtlkdmpfifpkpaaaGreatDoor
open Go.RowKit

/-- the numbers behind the first two words -/
def ftF (t : ByteArray) (i : Nat) : Int := nmF (wdI t (i + 2))
/-- the session's paths behind a fit, and what it says -/
def ftL (st : Ses) (ps : List Pt) (t : ByteArray) : Option (List Int) := adO ps st.x.n st.x.n (ftF t) (nmF (wdI t 1))
def ftS (st : Ses) (ps : List Pt) (t : ByteArray) : List Pt := match ftL st ps t with | some l => ps ++ [ftP l (ftF t) st.x.n] | none => ps
def ftT (st : Ses) (ps : List Pt) (t : ByteArray) : ByteArray := match ftL st ps t with | some l => spT (ftP l (ftF t) st.x.n).I st.x.n | none => noT
theorem fitL_bd {ps : List Pt} {f : Nat → Int} {t : Int} {n : Nat} (hf : ∀ k, k < n → 1 ≤ f k ∧ f k ≤ 100) (ht : 0 ≤ t ∧ t ≤ 1000000) : ∀ (k : Nat) (l : List Int), k ≤ n → fitL ps f t k = some l → ∀ i, i < k → 0 ≤ (ftP l f n).I i ∧ (ftP l f n).I i ≤ 2000
  | 0, l, _, _, i, hi => by omega
  | k + 1, l, hk, h, i, hi => by
    unfold fitL at h
    split at h
    · cases h
    · rename_i l0 h0
      split at h
      · cases h
      · rename_i u hu
        cases h
        have hl := fitL_len k l0 h0
        by_cases e : i = k
        · subst e
          have h1 := rdyT_bd hf ht i l0 (by omega) h0
          have h2 := frO_bd hu
          have h3 := hf i (by omega)
          have h4 := ftP_new l0 u f n
          rw [hl] at h4
          rw [h4.1]
          omega
        · rw [(ftP_old l0 u f n (by omega)).1]
          exact fitL_bd hf ht k l0 (by omega) h0 i (by omega)
theorem adO_bd {ps : List Pt} {n : Nat} {f : Nat → Int} {t : Int} {l : List Int} (ht : 0 ≤ t ∧ t ≤ 1000000) (h : adO ps n n f t = some l) : ∀ i, i < n → 0 ≤ (ftP l f n).I i ∧ (ftP l f n).I i ≤ 2000 := by
  unfold adO at h
  split at h
  · cases h
  · unfold ftO at h
    split at h
    · rename_i hr
      exact fitL_bd (rvB_parts hr).2.2 ht n l (Nat.le_refl _) h
    · cases h
/-- a session whose paths were replaced -/
theorem SsC.setP {z : Nat} {w : World} {s g1 c1 g2 c2 : Nat} {vm vt : Value} {st : Ses} (h : SsC z w s g1 c1 g2 c2 vm vt st) (a : Option Addr) (n c : Nat) :
    SsC z (w.setCell ⟨s, 2, none⟩ (.slice a n c)) s g1 c1 g2 c2 vm vt { st with pa := a, pn := n, pc := c } := by
  have f := Fr.set w ⟨s, 2, none⟩ (.slice a n c)
  have hbx := h.box.set 2 (.slice a n c)
  refine ⟨?_, h.bs.fr f (fun e => h.s1 e.symm), h.tr.fr f (fun e => h.s2 e.symm), h.mv.fr f (fun q e e' => (h.dm q e).1 e'), h.tv.fr f (fun q e e' => (h.dt q e).1 e'), h.n12, h.s1, h.s2, h.dm, h.dt, h.z1, h.z2, h.zs⟩
  simpa using hbx
/-- between two runs -/
structure RnI (w wr : World) (g cap j : Nat) (f : Nat → Int) : Prop where
  ow : Own wr g cap j 1 3 (fun i => .int .i64 (f i))
  gz : w.heap.size ≤ g
  bl : Below w.heap.size w wr
theorem RnI.push {w wr wa : World} {g cap g' c' j : Nat} {f : Nat → Int} (h : RnI w wr g cap j f) (HA : Own wa g' c' (j + 1) 1 3 (fun i => .int .i64 (f i))) (hgr : wr.grownBy wa (some g)) (hd : (g' = g ∧ c' = cap) ∨ wr.heap.size < g') : RnI w wa g' c' (j + 1) f := by
  have hgz := h.gz
  have hbs := h.bl.size
  refine ⟨HA, ?_, h.bl.trans (below_of_grown hgr hgz hbs)⟩
  rcases hd with q | q <;> omega
theorem fit_end {z s g1 c1 g2 c2 z4 g' c' : Nat} {vm vt : Value} {st : Ses} {pa : Option Addr} {pc : Nat} {ps : List Pt} {p : Pt} {own own1 O : Nat → Prop} {w w4 w6 : World} {e : Ending} {o : ByteArray} (hz : z ≤ w.heap.size)
    (hS : SsC z w s g1 c1 g2 c2 vm vt { st with pa := pa, pn := ps.length, pc := pc }) (hO1 : ∀ q, own1 q ↔ ownS s g1 g2 vm vt q) (hOO : ∀ q, own q ↔ own1 q ∨ O q) (hb4 : Below w.heap.size w w4) (hps : OwPs z4 w4 g' c' (ps.length + 1) (pA (ps ++ [p]))) (h4 : w.heap.size ≤ z4) (hg : w.heap.size ≤ g')
    (hnn : ∀ k, k < ps.length + 1 → 0 < (pA (ps ++ [p]) k).ni ∧ 0 < (pA (ps ++ [p]) k).no) (hb6 : Below (w4.setCell ⟨s, 2, none⟩ (.slice (some ⟨g', 0, none⟩) (ps.length + 1) c')).heap.size (w4.setCell ⟨s, 2, none⟩ (.slice (some ⟨g', 0, none⟩) (ps.length + 1) c')) w6) (he : e = .returned (.string o)) : MdP z st (ps ++ [p]) o s own w e w6 := by
  have hoz : ∀ q, own1 q → z ≤ q ∧ q < w.heap.size := fun q hq => hS.oz q ((hO1 q).1 hq)
  have hs := (hoz s ((hO1 s).2 (.inl rfl))).2
  have h1 := (((hS.fr (Fr.of_below hb4 (fun _ => False)) (fun _ _ h => h)).setP (some ⟨g', 0, none⟩) (ps.length + 1) c').fr (Fr.of_below hb6 (fun _ => False)) (fun _ _ h => h))
  have hz6 := hb6.size
  have hz5 : (w4.setCell ⟨s, 2, none⟩ (.slice (some ⟨g', 0, none⟩) (ps.length + 1) c')).heap.size = w4.heap.size := by simp
  have hlt : ∀ q, q < w4.heap.size → q < w6.heap.size := fun q hq => by omega
  refine ⟨he, fun q => own1 q ∨ (w.heap.size ≤ q ∧ q < w6.heap.size), ⟨some ⟨g', 0, none⟩, c', own1, fun q => w.heap.size ≤ q ∧ q < w6.heap.size, ⟨g1, c1, g2, c2, vm, vt, ?_, hO1⟩, ⟨fun q hq => ⟨Nat.le_trans hz hq.1, hq.2⟩, fun k hk => ?_⟩, fun _ => Iff.rfl, fun q hq hO => ?_⟩, ?_, fun q hq => ?_⟩
  · have : (ps ++ [p]).length = ps.length + 1 := by simp
    rw [this]
    exact h1
  · have hk2 : k < ps.length + 1 := by simpa using hk
    have hgl := hps.lt
    obtain ⟨F, hF1, hF2⟩ := hps
    obtain ⟨bi, ci, bo, co, e1, e2, e3, e4, e5, e6⟩ := hF2 k hk2
    obtain ⟨p1, p2⟩ := hnn k hk2
    have hbi : bi < w4.heap.size := World.block_lt_of_cell? w4 ⟨bi, 0 + 0, none⟩ (e5 0 p1)
    have hbo : bo < w4.heap.size := World.block_lt_of_cell? w4 ⟨bo, 0 + 0, none⟩ (e6 0 p2)
    have c0 := hF1.cell (i := k * 2) (by omega)
    have c1 := hF1.cell (i := k * 2 + 1) (by omega)
    have hA : PtA w4 g' (k * 2) (pA (ps ++ [p]) k) bi ci bo co := ⟨by rw [c0, e1], by rw [c1, e2], e5, e6⟩
    refine ⟨g', bi, ci, bo, co, rfl, PtA.keep (w := w4.setCell ⟨s, 2, none⟩ (.slice (some ⟨g', 0, none⟩) (ps.length + 1) c')) ⟨?_, ?_, ic_other e5 (by dsimp only; omega) _, ic_other e6 (by dsimp only; omega) _⟩ hb6, ⟨hg, hlt _ hgl⟩, ⟨by omega, hlt _ hbi⟩, ⟨by omega, hlt _ hbo⟩⟩
    · rw [World.cell?_setCell_other _ _ _ _ (fun h => by have := congrArg Addr.block h; dsimp only at this; omega)]; exact hA.c0
    · rw [World.cell?_setCell_other _ _ _ _ (fun h => by have := congrArg Addr.block h; dsimp only at this; omega)]; exact hA.c1
  · have := (hoz q hq).2
    omega
  · refine ((Fr.of_below hb4 own).trans ((Fr.set w4 ⟨s, 2, none⟩ (.slice (some ⟨g', 0, none⟩) (ps.length + 1) c')).mono (fun q _ e => ?_))).trans (Fr.of_below hb6 own)
    show own q
    rw [show q = s from e]
    exact (hOO s).2 (.inl ((hO1 s).2 (.inl rfl)))
  · rcases hq with h | h
    · exact .inl ((hOO q).2 (.inl h))
    · exact .inr h.1
set_option linter.unusedSimpArgs false in
set_option maxRecDepth 100000 in
set_option maxHeartbeats 1000000 in
theorem doFit_any (z s bw : Nat) (t : ByteArray) (m : Int) (st : Ses) (ps : List Pt) (own : Nat → Prop) (w : World) (hz : z ≤ w.heap.size) (hz2 : 2 ≤ z) (hW : WF m w) (hS : StP z st ps own w s) (hk : PsOk st.x.n ps) (hn : (wdL t).length = st.x.n + 2) (hw : ∀ i, i < (wdL t).length → w.cell? ⟨bw, i, none⟩ = some (.string (wdI t i))) :
    Calls Tryz.prog 103 #[.pointer (some ⟨s, 0, none⟩), .slice (some ⟨bw, 0, none⟩) (wdL t).length (wdL t).length] w (MdP z st (ftS st ps t) (ftT st ps t) s own w) := by
  have HS := Lib.hid hS
  have HWF := Lib.hid hW
  have hn1 := hk.n1
  have hn5 := hk.n5
  have hlen := hk.len
  have HKO : Hid (∀ i, i < ps.length → ptOk (pA ps i) st.x.n = true) := hk.ok
  rw [hn] at hw ⊢
  have HW := Lib.hid hw
  have hbl : bw < w.heap.size := World.block_lt_of_cell? w ⟨bw, 0, none⟩ (hw 0 (by omega))
  have HWC : Hid (∀ W, Below w.heap.size w W → ∀ i, i < st.x.n + 2 → W.cell? ⟨bw, i, none⟩ = some (.string (wdI t i))) := fun W h i hi => by rw [h.cell (p := ⟨bw, i, none⟩) hbl]; exact HW.out i hi
  have HSO : Hid (∀ q, own q → z ≤ q ∧ q < w.heap.size) := hS.oz.2
  obtain ⟨pa, pc, own1, O, ⟨g1, c1, g2, c2, vm, vt, h1, h2⟩, hr, ho, hd⟩ := hS
  have HSC := Lib.hid h1
  have HO1 := Lib.hid h2
  have HPR := Lib.hid hr
  have HOO := Lib.hid ho
  have HOD := Lib.hid hd
  have hsc := h1.box.cell
  have hnm := nmF_bd (wdI t 1)
  have hmk := fun w => run_mk0 elInt st.x.n (by omega) (by omega) w
  have hne : (((st.x.n + 2 : Nat) : Int) != (st.x.n : Int) + 2) = false := by simp
  have hne2 : ((st.x.n : Int) + 2 != (st.x.n : Int) + 2) = false := by simp
  have hwn : IntKind.i64.wrap ((st.x.n : Int) + 2) = (st.x.n : Int) + 2 := IntWalk.i64_in _ (by omega)
  have HAD : Hid (∀ W g cap, Below w.heap.size w W → Own W g cap st.x.n 1 3 (fun i => .int .i64 (ftF t i)) → Calls Tryz.prog 129 #[.int .i64 st.x.n, .slice pa ps.length pc, .int .i64 (nmF (wdI t 1)), .slice (some ⟨g, 0, none⟩) st.x.n cap] W (AdR (ftL st ps t) ps (ftF t) st.x.n W)) := fun W g cap h ho => pathsAdd_any pa pc st.x.n (nmF (wdI t 1)) g 0 st.x.n cap (ftF t) ps W hk (hr.psv.keep h) (by omega) (IC.of_own ho) (by omega)
  have HNU : Hid (∀ l W, Calls Tryz.prog 120 #[.string l] W fun e w' => e = .returned (.int .i64 (nmF l)) ∧ W = w') := fun l W => numberOf_any l W
  clear h1 h2 hr ho hd hw hk hW hn
  go_enter Tryz.func103, Tryz.ntmps103
  go_wp2_with fail
  have HR0 : Hid (RnI w (w.alloc (.cells (madeCells #[.int .i64 0] st.x.n) 3)) w.heap.size st.x.n 0 (ftF t)) := ⟨own_made1 _ _ _ _ _ (by unfold maxLen; omega), Nat.le_refl _, below_all _ _⟩
  go_loopw [6, 8, 29] (fun o _ i wr => ∃ j g cap : Nat, j ≤ st.x.n ∧ i = .int .i64 j ∧ o = .slice (some ⟨g, 0, none⟩) j cap ∧ Hid (RnI w wr g cap j (ftF t))) (fun _ _ i _ => st.x.n - (intOf i).toNat)
  case atStart => exact ⟨0, w.heap.size, st.x.n, Nat.zero_le _, rfl, rfl, HR0⟩
  case round =>
    obtain ⟨j, g, cap, hj, rfl, rfl, HR⟩ := hrel
    by_cases hlt : j < st.x.n
    · have hji : (j : Int) < (st.x.n : Int) := by omega
      have hc0 := HWC.out wr HR.out.bl (j + 2) (by omega)
      rw [Nat.add_comm j 2] at hc0
      have HFJ : Hid (nmF (wdI t (2 + j)) = ftF t j) := by show _ = _; unfold ftF; rw [Nat.add_comm]
      generalize wdI t (2 + j) = lj at *
      go_wp2_with fail
      refine (HNU.out lj _).mono ?_
      rintro e w' ⟨rfl, rfl⟩
      rw [HFJ.out]
      go_wp2_with (at_builtin; refine wpList_pushI elInt rfl (.tmp 33) (.tmp 36) (by rfl) HR.out.ow (by rfl) (by rfl) (by rfl) (by omega) ?_; intro g' c' wa HA hgr hd; have HR3 := Lib.hid (HR.out.push HA hgr hd); clear HA hgr hd)
      go_roundw
      case rel => exact ⟨j + 1, g', c', by omega, by go_num, by simp, HR3⟩
      case measure => simp [intOf]; omega
    · obtain rfl : j = st.x.n := by omega
      have HBd : Hid (Below wr.heap.size wr wr.drew) := (Below.refl _ _).drew
      have HCC : Hid (∀ W, Below w.heap.size w W → W.cell? ⟨s, 2, none⟩ = some (.slice pa ps.length pc) ∧ W.cell? ⟨bw, 1, none⟩ = some (.string (wdI t 1))) := fun W h => ⟨(HSC.out.box.below h HSC.out.box.lt).cell 2, HWC.out W h 1 (by omega)⟩
      have HBr : Hid (Below w.heap.size w wr.drew) := HR.out.bl.drew
      have HOd : Hid (Own wr.drew g cap st.x.n 1 3 (fun i => .int .i64 (ftF t i))) := HR.out.ow.drew
      have HTS : Hid (ftS st ps t = match ftL st ps t with | some l => ps ++ [ftP l (ftF t) st.x.n] | none => ps) := rfl
      have HTT : Hid (ftT st ps t = match ftL st ps t with | some l => spT (ftP l (ftF t) st.x.n).I st.x.n | none => noT) := rfl
      have HLB : Hid (∀ l, ftL st ps t = some l → ∀ i, i < st.x.n → 0 ≤ (ftP l (ftF t) st.x.n).I i ∧ (ftP l (ftF t) st.x.n).I i ≤ 2000) := fun l h => adO_bd (by omega) h
      clear hsc
      have HN1 : Hid (∀ W, Calls Tryz.prog 120 #[.string (wdI t 1)] W fun e w' => e = .returned (.int .i64 (nmF (wdI t 1))) ∧ W = w') := fun W => HNU.out _ W
      have h12 : (1 : Int) < (st.x.n : Int) + 2 := by omega
      have h12' : 1 < st.x.n + 2 := by omega
      clear HNU
      generalize wdI t 1 = l1 at *
      generalize nmF l1 = nl at *
      go_wp2_with fail
      refine wp_region_held_drew (S := fun W => W.cell? ⟨s, 2, none⟩ = some (.slice pa ps.length pc) ∧ W.cell? ⟨bw, 1, none⟩ = some (.string l1)) (by kernel_rfl) (HCC.out _ HBr.out) (fun hHeld => ?_)
      refine wpAnyH_take (i := 0) (oi := ?_) (v := ?_) ?_ (by kernel_rfl) (by kernel_rfl) (by kernel_rfl) ?_ ?_ (by assumption) ?_
      rotate_left 2
      · simp only [List.getElem?_toArray, List.getElem?_cons_succ, List.getElem?_cons_zero]; rfl
      · exact fun _ _ _ h => h
      · first
          | (refine Or.inr ⟨?_, ?_⟩ <;> rfl)
          | (refine Or.inl ⟨?_, ?_⟩; · rfl
             intro w hSw; (try dsimp only at hSw); go_simp; (try with_reducible rfl); done)
      try simp only [Act.put, List.setIfInBounds_toArray, List.set_cons_zero, List.set_cons_succ]
      refine wpAnyH_take (i := 1) (oi := ?_) (v := ?_) ?_ (by kernel_rfl) (by kernel_rfl) (by kernel_rfl) ?_ ?_ (by assumption) ?_
      rotate_left 2
      · simp only [List.getElem?_toArray, List.getElem?_cons_succ, List.getElem?_cons_zero]; rfl
      · exact fun _ _ _ h => h
      · first
          | (refine Or.inr ⟨?_, ?_⟩ <;> rfl)
          | (refine Or.inl ⟨?_, ?_⟩; · rfl
             intro w hSw; (try dsimp only at hSw); go_simp; (try with_reducible rfl); done)
      try simp only [Act.put, List.setIfInBounds_toArray, List.set_cons_zero, List.set_cons_succ]
      refine wpAnyH_take (i := 2) (oi := ?_) (v := ?_) ?_ (by kernel_rfl) (by kernel_rfl) (by kernel_rfl) ?_ ?_ (by assumption) ?_
      rotate_left 2
      · simp only [List.getElem?_toArray, List.getElem?_cons_succ, List.getElem?_cons_zero]; rfl
      · exact fun _ _ _ h => h
      · first
          | (refine Or.inr ⟨?_, ?_⟩ <;> rfl)
          | (refine Or.inl ⟨?_, ?_⟩; · rfl
             intro w hSw; (try dsimp only at hSw); go_simp; (try with_reducible rfl); done)
      try simp only [Act.put, List.setIfInBounds_toArray, List.set_cons_zero, List.set_cons_succ]
      refine wpAnyH_take (i := 3) (oi := ?_) (v := ?_) ?_ (by kernel_rfl) (by kernel_rfl) (by kernel_rfl) ?_ ?_ (by assumption) ?_
      rotate_left 2
      · simp only [List.getElem?_toArray, List.getElem?_cons_succ, List.getElem?_cons_zero]; rfl
      · exact fun _ _ _ h => h
      · first
          | (refine Or.inr ⟨?_, ?_⟩ <;> rfl)
          | (refine Or.inl ⟨?_, ?_⟩; · rfl
             intro w hSw; (try dsimp only at hSw); go_simp; (try with_reducible rfl); done)
      try simp only [Act.put, List.setIfInBounds_toArray, List.set_cons_zero, List.set_cons_succ]
      refine wpAnyH_take (i := 4) (oi := ?_) (v := ?_) ?_ (by kernel_rfl) (by kernel_rfl) (by kernel_rfl) ?_ ?_ (by assumption) ?_
      rotate_left 2
      · simp only [List.getElem?_toArray, List.getElem?_cons_succ, List.getElem?_cons_zero]; rfl
      · exact fun _ _ _ h => h
      · first
          | (refine Or.inr ⟨?_, ?_⟩ <;> rfl)
          | (refine Or.inl ⟨?_, ?_⟩; · rfl
             intro w hSw; (try dsimp only at hSw); go_simp; (try with_reducible rfl); done)
      try simp only [Act.put, List.setIfInBounds_toArray, List.set_cons_zero, List.set_cons_succ]
      refine wpAnyH_take (i := 5) (oi := ?_) (v := ?_) ?_ (by kernel_rfl) (by kernel_rfl) (by kernel_rfl) ?_ ?_ (by assumption) ?_
      rotate_left 2
      · simp only [List.getElem?_toArray, List.getElem?_cons_succ, List.getElem?_cons_zero]; rfl
      · exact fun _ _ _ h => h
      · first
          | (refine Or.inr ⟨?_, ?_⟩ <;> rfl)
          | (refine Or.inl ⟨?_, ?_⟩; · rfl
             intro w hSw; (try dsimp only at hSw); go_simp; (try with_reducible rfl); done)
      try simp only [Act.put, List.setIfInBounds_toArray, List.set_cons_zero, List.set_cons_succ]
      refine wpAnyH_take (i := 6) (oi := ?_) (v := ?_) ?_ (by kernel_rfl) (by kernel_rfl) (by kernel_rfl) ?_ ?_ (by assumption) ?_
      rotate_left 2
      · simp only [List.getElem?_toArray, List.getElem?_cons_succ, List.getElem?_cons_zero]; rfl
      · exact fun _ _ _ h => h
      · first
          | (refine Or.inr ⟨?_, ?_⟩ <;> rfl)
          | (refine Or.inl ⟨?_, ?_⟩; · rfl
             intro w hSw; (try dsimp only at hSw); go_simp; (try with_reducible rfl); done)
      try simp only [Act.put, List.setIfInBounds_toArray, List.set_cons_zero, List.set_cons_succ]
      refine wpAnyH_take (i := 7) (oi := ?_) (v := ?_) ?_ (by kernel_rfl) (by kernel_rfl) (by kernel_rfl) ?_ ?_ (by assumption) ?_
      rotate_left 2
      · simp only [List.getElem?_toArray, List.getElem?_cons_succ, List.getElem?_cons_zero]; rfl
      · exact fun _ _ _ h => h
      · first
          | (refine Or.inr ⟨?_, ?_⟩ <;> rfl)
          | (refine Or.inl ⟨?_, ?_⟩; · rfl
             intro w hSw; (try dsimp only at hSw); go_simp; (try with_reducible rfl); done)
      try simp only [Act.put, List.setIfInBounds_toArray, List.set_cons_zero, List.set_cons_succ]
      refine wpAnyH_take (i := 9) (oi := ?_) (v := ?_) ?_ (by kernel_rfl) (by kernel_rfl) (by kernel_rfl) ?_ ?_ (by assumption) ?_
      rotate_left 2
      · simp only [List.getElem?_toArray, List.getElem?_cons_succ, List.getElem?_cons_zero]; rfl
      · exact fun _ _ _ h => h
      · first
          | (refine Or.inr ⟨?_, ?_⟩ <;> rfl)
          | (refine Or.inl ⟨?_, ?_⟩; · rfl
             intro w hSw; (try dsimp only at hSw); go_simp; (try with_reducible rfl); done)
      try simp only [Act.put, List.setIfInBounds_toArray, List.set_cons_zero, List.set_cons_succ]
      refine wpAnyH_ready (rs := [8]) (by kernel_rfl) (by simp) ?_
      refine AllReadyH.cons (o := ?_) ?_ (fun K hK => ?_) AllReadyH.nil
      rotate_left 1
      · simp only [List.getElem?_toArray, List.getElem?_cons_succ, List.getElem?_cons_zero]; rfl
      go_simp
      go_at_call 120
      go_must (refine Calls.mono (HN1.out _) ?_)
      rintro e w' ⟨rfl, rfl⟩
      refine hK.out _ _ ?_ (fun hHeld => ?_)
      · try dsimp only
        exact HCC.out _ HBr.out
      clear hK K
      try simp only [Act.put, List.setIfInBounds_toArray, List.set_cons_zero, List.set_cons_succ]
      cases hl : ftL st ps t with
      | none =>
        have HE1 : Hid (ftS st ps t = ps) := by show _ = _; rw [HTS.out, hl]
        have HE2 : Hid (ftT st ps t = noT) := by show _ = _; rw [HTT.out, hl]
        rw [hl] at HAD
        clear hl
        refine wpAnyH_ready (rs := [10]) (by kernel_rfl) (by simp) ?_
        refine AllReadyH.cons (o := ?_) ?_ (fun K hK => ?_) AllReadyH.nil
        rotate_left 1
        · simp only [List.getElem?_toArray, List.getElem?_cons_succ, List.getElem?_cons_zero]; rfl
        go_simp
        go_at_call 129
        go_must (refine Calls.mono (HAD.out _ g cap HBr.out HOd.out) ?_)
        rintro e w4 ⟨hb4, v4, rfl⟩
        have HB4 := Lib.hid (HBr.out.trans (hb4.mono HBr.out.size))
        clear hb4
        refine hK.out _ _ ?_ (fun hHeld => ?_)
        · try dsimp only
          exact HCC.out _ HB4.out
        clear hK K
        try simp only [Act.put, List.setIfInBounds_toArray, List.set_cons_zero, List.set_cons_succ]
        refine wpAnyH_take (i := 11) (oi := ?_) (v := ?_) ?_ (by kernel_rfl) (by kernel_rfl) (by kernel_rfl) ?_ ?_ (by assumption) ?_
        rotate_left 2
        · simp only [List.getElem?_toArray, List.getElem?_cons_succ, List.getElem?_cons_zero]; rfl
        · exact fun _ _ _ h => h
        · first
            | (refine Or.inr ⟨?_, ?_⟩ <;> rfl)
            | (refine Or.inl ⟨?_, ?_⟩; · rfl
               intro w hSw; (try dsimp only at hSw); go_simp; (try with_reducible rfl); done)
        try simp only [Act.put, List.setIfInBounds_toArray, List.set_cons_zero, List.set_cons_succ]
        refine wpAnyH_take (i := 12) (oi := ?_) (v := ?_) ?_ (by kernel_rfl) (by kernel_rfl) (by kernel_rfl) ?_ ?_ (by assumption) ?_
        rotate_left 2
        · simp only [List.getElem?_toArray, List.getElem?_cons_succ, List.getElem?_cons_zero]; rfl
        · exact fun _ _ _ h => h
        · first
            | (refine Or.inr ⟨?_, ?_⟩ <;> rfl)
            | (refine Or.inl ⟨?_, ?_⟩; · rfl
               intro w hSw; (try dsimp only at hSw); go_simp; (try with_reducible rfl); done)
        try simp only [Act.put, List.setIfInBounds_toArray, List.set_cons_zero, List.set_cons_succ]
        refine wpAnyH_take (i := 13) (oi := ?_) (v := ?_) ?_ (by kernel_rfl) (by kernel_rfl) (by kernel_rfl) ?_ ?_ (by assumption) ?_
        rotate_left 2
        · simp only [List.getElem?_toArray, List.getElem?_cons_succ, List.getElem?_cons_zero]; rfl
        · exact fun _ _ _ h => h
        · first
            | (refine Or.inr ⟨?_, ?_⟩ <;> rfl)
            | (refine Or.inl ⟨?_, ?_⟩; · rfl
               intro w hSw; (try dsimp only at hSw); go_simp; (try with_reducible rfl); done)
        try simp only [Act.put, List.setIfInBounds_toArray, List.set_cons_zero, List.set_cons_succ]
        refine wpAnyH_take (i := 14) (oi := ?_) (v := ?_) ?_ (by kernel_rfl) (by kernel_rfl) (by kernel_rfl) ?_ ?_ (by assumption) ?_
        rotate_left 2
        · simp only [List.getElem?_toArray, List.getElem?_cons_succ, List.getElem?_cons_zero]; rfl
        · exact fun _ _ _ h => h
        · first
            | (refine Or.inr ⟨?_, ?_⟩ <;> rfl)
            | (refine Or.inl ⟨?_, ?_⟩; · rfl
               intro w hSw; (try dsimp only at hSw); go_simp; (try with_reducible rfl); done)
        try simp only [Act.put, List.setIfInBounds_toArray, List.set_cons_zero, List.set_cons_succ]
        refine wpAnyH_take (i := 15) (oi := ?_) (v := ?_) ?_ (by kernel_rfl) (by kernel_rfl) (by kernel_rfl) ?_ ?_ (by assumption) ?_
        rotate_left 2
        · simp only [List.getElem?_toArray, List.getElem?_cons_succ, List.getElem?_cons_zero]; rfl
        · exact fun _ _ _ h => h
        · first
            | (refine Or.inr ⟨?_, ?_⟩ <;> rfl)
            | (refine Or.inl ⟨?_, ?_⟩; · rfl
               intro w hSw; (try dsimp only at hSw); go_simp; (try with_reducible rfl); done)
        try simp only [Act.put, List.setIfInBounds_toArray, List.set_cons_zero, List.set_cons_succ]
        refine wpAnyH_done (by kernel_rfl) ?_ _
        clear hHeld
        go_wp2_with fail
        go_ret
        rw [HE1.out, HE2.out]
        exact MdP.same HS.out rfl HB4.out
      | some l =>
        have HE1 : Hid (ftS st ps t = ps ++ [ftP l (ftF t) st.x.n]) := by show _ = _; rw [HTS.out, hl]
        have HE2 : Hid (ftT st ps t = spT (ftP l (ftF t) st.x.n).I st.x.n) := by show _ = _; rw [HTT.out, hl]
        have HLI := Lib.hid (HLB.out l hl)
        rw [hl] at HAD
        clear hl
        refine wpAnyH_ready (rs := [10]) (by kernel_rfl) (by simp) ?_
        refine AllReadyH.cons (o := ?_) ?_ (fun K hK => ?_) AllReadyH.nil
        rotate_left 1
        · simp only [List.getElem?_toArray, List.getElem?_cons_succ, List.getElem?_cons_zero]; rfl
        go_simp
        go_at_call 129
        go_must (refine Calls.mono (HAD.out _ g cap HBr.out HOd.out) ?_)
        rintro e w4 ⟨hb4, g', c', rfl, hg', hps⟩
        have HB4 := Lib.hid (HBr.out.trans (hb4.mono HBr.out.size))
        have HPS := Lib.hid hps
        have hs4 := HBr.out.size
        clear hb4 hps
        refine hK.out _ _ ?_ (fun hHeld => ?_)
        · try dsimp only
          exact HCC.out _ HB4.out
        clear hK K
        try simp only [Act.put, List.setIfInBounds_toArray, List.set_cons_zero, List.set_cons_succ]
        refine wpAnyH_take (i := 11) (oi := ?_) (v := ?_) ?_ (by kernel_rfl) (by kernel_rfl) (by kernel_rfl) ?_ ?_ (by assumption) ?_
        rotate_left 2
        · simp only [List.getElem?_toArray, List.getElem?_cons_succ, List.getElem?_cons_zero]; rfl
        · exact fun _ _ _ h => h
        · first
            | (refine Or.inr ⟨?_, ?_⟩ <;> rfl)
            | (refine Or.inl ⟨?_, ?_⟩; · rfl
               intro w hSw; (try dsimp only at hSw); go_simp; (try with_reducible rfl); done)
        try simp only [Act.put, List.setIfInBounds_toArray, List.set_cons_zero, List.set_cons_succ]
        refine wpAnyH_take (i := 12) (oi := ?_) (v := ?_) ?_ (by kernel_rfl) (by kernel_rfl) (by kernel_rfl) ?_ ?_ (by assumption) ?_
        rotate_left 2
        · simp only [List.getElem?_toArray, List.getElem?_cons_succ, List.getElem?_cons_zero]; rfl
        · exact fun _ _ _ h => h
        · first
            | (refine Or.inr ⟨?_, ?_⟩ <;> rfl)
            | (refine Or.inl ⟨?_, ?_⟩; · rfl
               intro w hSw; (try dsimp only at hSw); go_simp; (try with_reducible rfl); done)
        try simp only [Act.put, List.setIfInBounds_toArray, List.set_cons_zero, List.set_cons_succ]
        refine wpAnyH_take (i := 13) (oi := ?_) (v := ?_) ?_ (by kernel_rfl) (by kernel_rfl) (by kernel_rfl) ?_ ?_ (by assumption) ?_
        rotate_left 2
        · simp only [List.getElem?_toArray, List.getElem?_cons_succ, List.getElem?_cons_zero]; rfl
        · exact fun _ _ _ h => h
        · first
            | (refine Or.inr ⟨?_, ?_⟩ <;> rfl)
            | (refine Or.inl ⟨?_, ?_⟩; · rfl
               intro w hSw; (try dsimp only at hSw); go_simp; (try with_reducible rfl); done)
        try simp only [Act.put, List.setIfInBounds_toArray, List.set_cons_zero, List.set_cons_succ]
        refine wpAnyH_take (i := 14) (oi := ?_) (v := ?_) ?_ (by kernel_rfl) (by kernel_rfl) (by kernel_rfl) ?_ ?_ (by assumption) ?_
        rotate_left 2
        · simp only [List.getElem?_toArray, List.getElem?_cons_succ, List.getElem?_cons_zero]; rfl
        · exact fun _ _ _ h => h
        · first
            | (refine Or.inr ⟨?_, ?_⟩ <;> rfl)
            | (refine Or.inl ⟨?_, ?_⟩; · rfl
               intro w hSw; (try dsimp only at hSw); go_simp; (try with_reducible rfl); done)
        try simp only [Act.put, List.setIfInBounds_toArray, List.set_cons_zero, List.set_cons_succ]
        refine wpAnyH_take (i := 15) (oi := ?_) (v := ?_) ?_ (by kernel_rfl) (by kernel_rfl) (by kernel_rfl) ?_ ?_ (by assumption) ?_
        rotate_left 2
        · simp only [List.getElem?_toArray, List.getElem?_cons_succ, List.getElem?_cons_zero]; rfl
        · exact fun _ _ _ h => h
        · first
            | (refine Or.inr ⟨?_, ?_⟩ <;> rfl)
            | (refine Or.inl ⟨?_, ?_⟩; · rfl
               intro w hSw; (try dsimp only at hSw); go_simp; (try with_reducible rfl); done)
        try simp only [Act.put, List.setIfInBounds_toArray, List.set_cons_zero, List.set_cons_succ]
        refine wpAnyH_done (by kernel_rfl) ?_ _
        clear hHeld
        have HS4 := Lib.hid (HSC.out.fr (Fr.of_below HB4.out (fun _ => False)) (fun _ _ h => h))
        have hxc := HS4.out.box.cell
        have hxf := HS4.out.box.free
        have hxl := HS4.out.box.lt
        have hsw := (HSO.out s ((HOO.out s).2 (.inl ((HO1.out s).2 (.inl rfl))))).2
        have hgs : s ≠ g' := by omega
        have hat : ∃ bi ci bo co, PtA w4 g' (ps.length * 2) (ftP l (ftF t) st.x.n) bi ci bo co ∧ w.heap.size ≤ bi := by
          obtain ⟨F, hF1, hF2⟩ := HPS.out
          obtain ⟨bi, ci, bo, co, e1, e2, e3, e4, e5, e6⟩ := hF2 ps.length (by omega)
          have c0 := hF1.cell (i := ps.length * 2) (by omega)
          have c1 := hF1.cell (i := ps.length * 2 + 1) (by omega)
          rw [pA_new] at e1 e2 e5 e6
          exact ⟨bi, ci, bo, co, ⟨by rw [c0, e1], by rw [c1, e2], e5, e6⟩, by omega⟩
        obtain ⟨bi, ci, bo, co, hpt, hbw⟩ := hat
        have hc0 : w4.cell? ⟨g', ps.length * 2, none⟩ = some (.slice (some ⟨bi, 0, none⟩) st.x.n ci) := hpt.c0
        have hc1 : (w4.setCell ⟨s, 2, none⟩ (.slice (some ⟨g', 0, none⟩) (ps.length + 1) c')).cell? ⟨g', ps.length * 2, none⟩ = some (.slice (some ⟨bi, 0, none⟩) st.x.n ci) := by rw [World.cell?_setCell_other _ _ _ _ (fun h => hgs (congrArg Addr.block h))]; exact hc0
        have HI5 : Hid (IC (w4.setCell ⟨s, 2, none⟩ (.slice (some ⟨g', 0, none⟩) (ps.length + 1) c')) bi 0 st.x.n (ftP l (ftF t) st.x.n).I) := ic_other hpt.I (by dsimp only; omega) _
        have HW5 : Hid (WF m (w4.setCell ⟨s, 2, none⟩ (.slice (some ⟨g', 0, none⟩) (ps.length + 1) c'))) := (HWF.out.below HB4.out).fr (Fr.set w4 ⟨s, 2, none⟩ (.slice (some ⟨g', 0, none⟩) (ps.length + 1) c')) (fun q hq => by
          have := (HSO.out s ((HOO.out s).2 (.inl ((HO1.out s).2 (.inl rfl))))).1
          have hqs : q = s := hq
          omega)
        clear hpt
        go_wp2_with fail
        refine (spaced_any bi 0 st.x.n ci (ftP l (ftF t) st.x.n).I m _ HW5.out (by omega) (fun k hk => by have := HLI.out k hk; omega) HI5.out).mono ?_
        rintro e w6 ⟨rfl, hb6⟩
        have HB6 := Lib.hid hb6
        clear hb6 hc0 hc1 hxc hxf hxl
        go_wp2_with fail
        go_ret
        rw [HE1.out, HE2.out]
        exact fit_end hz HSC.out HO1.out HOO.out HB4.out HPS.out hs4 (by omega) (fun k hk => by
          by_cases e : k = ps.length
          · subst e
            rw [pA_new]
            exact ⟨hn1, hn1⟩
          · rw [← pA_old (by omega)]
            obtain ⟨_, d1, d2, _⟩ := ptOk_parts (HKO.out k (by omega))
            omega) HB6.out rfl
end Go.Proofs.YtlkdmpfifpkpaaaGreatDoor
namespace Go.Proofs.YtlkdmpfifpkpaaaGreatDoor
open Go.RowKit

/-- between two records -/
structure FiI (z s b : Nat) (w wr : World) (own own' : Nat → Prop) (st : Ses) : Prop where
  ss : StS z st own' wr s
  fr : Fr own w wr
  sub : ∀ q, own' q → own q ∨ w.heap.size ≤ q
  nb : ¬ own' b
  bl : b < wr.heap.size
  wb : w.heap.size ≤ b
theorem FiI.below {z s b : Nat} {w wr wa : World} {own own' : Nat → Prop} {st : Ses} (h : FiI z s b w wr own own' st) (hb : Below wr.heap.size wr wa) : FiI z s b w wa own own' st :=
  ⟨h.ss.keep (Fr.of_below hb _), h.fr.trans (Fr.of_below hb _), h.sub, h.nb, Nat.lt_of_lt_of_le h.bl hb.size, h.wb⟩
theorem FiI.step {z s b : Nat} {w wr wa : World} {own own1 own2 : Nat → Prop} {st st2 : Ses} (h : FiI z s b w wr own own1 st) (h2 : StS z st2 own2 wa s) (hf : Fr own1 wr wa) (hq : ∀ q, own2 q → own1 q ∨ wr.heap.size ≤ q) : FiI z s b w wa own own2 st2 := by
  refine ⟨h2, h.fr.trans2 hf h.sub, fun q hq2 => ?_, fun hb => ?_, Nat.lt_of_lt_of_le h.bl hf.size, h.wb⟩
  · rcases hq q hq2 with e | e
    · exact h.sub q e
    · exact .inr (Nat.le_trans h.fr.size e)
  · rcases hq b hb with e | e
    · exact h.nb e
    · have := h.bl
      omega
end Go.Proofs.YtlkdmpfifpkpaaaGreatDoor
namespace Go.Proofs.YtlkdmpfifpkpaaaGreatDoor
open Go.RowKit

/-- what is between a byte -/
def spB (c : UInt8) : List UInt8 → List (List UInt8)
  | [] => [[]]
  | b :: l => if b = c then [] :: spB c l else match spB c l with | [] => [[b]] | x :: r => (b :: x) :: r
theorem spB_free {c : UInt8} : ∀ {l : List UInt8}, c ∉ l → spB c l = [l]
  | [], _ => rfl
  | b :: l, h => by
    have h1 : b ≠ c := fun e => h (by simp [e])
    have h2 := spB_free (c := c) (l := l) (fun e => h (by simp [e]))
    simp [spB, h1, h2]
theorem spB_app {c : UInt8} : ∀ {a : List UInt8} (b : List UInt8), c ∉ a → spB c (a ++ c :: b) = a :: spB c b
  | [], b, _ => by simp [spB]
  | x :: a, b, h => by
    have h1 : x ≠ c := fun e => h (by simp [e])
    have h2 := spB_app (c := c) (a := a) b (fun e => h (by simp [e]))
    simp [spB, h1, h2]
/-- whole lines -/
def lnsB (ls : List (List UInt8)) : List UInt8 := ls.flatMap (· ++ [10])
theorem spB_lines : ∀ (ls : List (List UInt8)), (∀ l, l ∈ ls → (10 : UInt8) ∉ l) → spB 10 (lnsB ls) = ls ++ [[]]
  | [], _ => rfl
  | l :: ls, h => by
    have h2 := spB_lines ls (fun x hx => h x (by simp [hx]))
    have e : lnsB (l :: ls) = l ++ 10 :: lnsB ls := by simp [lnsB]
    rw [e, spB_app _ (h l (by simp)), h2]
    rfl
theorem countB_one (t : ByteArray) (c : UInt8) : Lib.countB t ⟨#[c]⟩ = t.data.toList.count c := Lib.count_one c t.data.toList
theorem indexByte_app {c : UInt8} : ∀ {a : List UInt8} (b : List UInt8), c ∉ a → Lib.indexByte (a ++ c :: b) c = a.length
  | [], b, _ => by simp [Lib.indexByte]
  | x :: a, b, h => by
    have h1 : (x == c) = false := beq_eq_false_iff_ne.2 (fun e => h (by simp [e]))
    have h2 := indexByte_app (c := c) (a := a) b (fun e => h (by simp [e]))
    have h3 : ((a.length : Int) == -1) = false := beq_eq_false_iff_ne.2 (by omega)
    simp only [List.cons_append, Lib.indexByte, h1, h2, h3, List.length_cons]
    simp
theorem ext_list (t : ByteArray) (i j : Nat) : (t.extract i j).data.toList = (t.data.toList.take j).drop i := by
  simp [ByteArray.data_extract, Array.toList_extract, List.extract_eq_take_drop, List.drop_take]
theorem splitB_spB (c : UInt8) : ∀ (k : Nat) (t : ByteArray), t.data.toList.count c = k → (Lib.splitB ⟨#[c]⟩ 0 k t).map (·.data.toList) = spB c t.data.toList
  | 0, t, h => by
    have hn : c ∉ t.data.toList := List.count_eq_zero.1 h
    rw [spB_free hn]
    rfl
  | k + 1, t, h => by
    have hm : c ∈ t.data.toList := List.count_pos_iff.1 (by omega)
    obtain ⟨a, b, e, ha⟩ := List.eq_append_cons_of_mem hm
    have hi : Lib.indexB t ⟨#[c]⟩ = (a.length : Int) := by
      show Lib.index t.data.toList [c] = _
      rw [Lib.index_one, e, indexByte_app b ha]
    have hz : t.size = a.length + (b.length + 1) := by
      have : t.data.toList.length = t.size := by simp
      rw [← this, e, List.length_append, List.length_cons]
    have h1 : (t.extract 0 a.length).data.toList = a := by
      rw [ext_list, e, List.drop_zero, List.take_left]
    have h2 : (t.extract (a.length + 1) t.size).data.toList = b := by
      rw [ext_list, e, hz, List.take_of_length_le (by rw [List.length_append, List.length_cons]; exact Nat.le_refl _), List.append_cons a c b, show a.length + 1 = (a ++ [c]).length from by rw [List.length_append]; rfl, List.drop_left]
    have hc : b.count c = k := by
      rw [e, List.count_append, List.count_eq_zero.2 ha, List.count_cons_self] at h
      omega
    rw [Lib.splitB_hit _ _ _ _ _ hi, e, spB_app b ha, List.map_cons]
    have ih := splitB_spB c k (t.extract (a.length + 1) t.size) (by rw [h2]; exact hc)
    rw [h2] at ih
    show (t.extract 0 (a.length + 0)).data.toList :: _ = _
    rw [Nat.add_zero, h1]
    exact congrArg _ ih
theorem wdL_spB (t : ByteArray) : (wdL t).map (·.data.toList) = spB 32 t.data.toList := by
  unfold wdL
  exact splitB_spB 32 _ t (countB_one t 32).symm
theorem lnT_spB (t : ByteArray) : (lnT t).map (·.data.toList) = spB 10 t.data.toList := by
  unfold lnT
  exact splitB_spB 10 _ t (countB_one t 10).symm
theorem ba_ext {a b : ByteArray} (h : a.data.toList = b.data.toList) : a = b := by
  cases a
  cases b
  simpa using h
theorem map_ba_inj : ∀ {xs ys : List ByteArray}, xs.map (·.data.toList) = ys.map (·.data.toList) → xs = ys
  | [], [], _ => rfl
  | [], _ :: _, h => by cases h
  | _ :: _, [], h => by cases h
  | x :: xs, y :: ys, h => by
    simp only [List.map_cons, List.cons.injEq] at h
    rw [ba_ext h.1, map_ba_inj h.2]
/-- the lines of a script of whole lines -/
theorem lnT_of {t : ByteArray} {ls : List ByteArray} (h : t.data.toList = lnsB (ls.map (·.data.toList))) (hf : ∀ l, l ∈ ls → (10 : UInt8) ∉ l.data.toList) : lnT t = ls ++ [⟨#[]⟩] := by
  refine map_ba_inj ?_
  rw [lnT_spB, h, spB_lines _ (fun l hl => by
    obtain ⟨x, hx, rfl⟩ := List.mem_map.1 hl
    exact hf x hx), List.map_append]
  rfl
/-- the words of a line -/
theorem wdL_of {t : ByteArray} {ws : List ByteArray} (h : spB 32 t.data.toList = ws.map (·.data.toList)) : wdL t = ws := map_ba_inj (by rw [wdL_spB, h])
end Go.Proofs.YtlkdmpfifpkpaaaGreatDoor
namespace Go.Proofs.YtlkdmpfifpkpaaaGreatDoor
open Go.RowKit

/-- lines one behind the other -/
def Stp : Ses → List (ByteArray × ByteArray) → Ses → Prop
  | st, [], st' => st = st'
  | st, y :: r, st' => ∃ st1, Ans st y.1 st1 y.2 ∧ Stp st1 r st'
theorem Stp.fn : ∀ {a : List (ByteArray × ByteArray)} {st st' : Ses}, Stp st a st' → ∃ sts : Nat → Ses, sts 0 = st ∧ sts a.length = st' ∧ ∀ k y, a[k]? = some y → Ans (sts k) y.1 (sts (k + 1)) y.2
  | [], st, st', h => ⟨fun _ => st, rfl, h, fun k y hy => by simp at hy⟩
  | y :: r, st, st', ⟨s1, h1, h2⟩ => by
    obtain ⟨sts, e0, en, hs⟩ := h2.fn
    refine ⟨fun k => match k with | 0 => st | k + 1 => sts k, rfl, en, fun k z hz => ?_⟩
    match k with
    | 0 =>
      cases hz
      show Ans st y.1 (sts 0) y.2
      rw [e0]
      exact h1
    | k + 1 => exact hs k z hz
/-- what the lines say, each with its newline -/
def sayL (a : List (ByteArray × ByteArray)) : List UInt8 := lnsB (a.map (·.2.data.toList))
theorem exO_say (a : List (ByteArray × ByteArray)) (out : Nat → ByteArray) (h : ∀ k y, a[k]? = some y → out k = y.2) : ∀ k, k ≤ a.length → exO out k = sayL (a.take k)
  | 0, _ => rfl
  | k + 1, hk => by
    have ih := exO_say a out h k (by omega)
    have hk2 : k < a.length := by omega
    have e : out k = a[k].2 := h k _ (List.getElem?_eq_getElem hk2)
    have et : a.take (k + 1) = a.take k ++ [a[k]] := List.take_succ_eq_append_getElem hk2
    rw [et]
    unfold sayL at ih ⊢
    unfold lnsB at ih ⊢
    rw [List.map_append, List.flatMap_append, ← ih]
    rw [exO, e]
    simp
end Go.Proofs.YtlkdmpfifpkpaaaGreatDoor
namespace Go.Proofs.YtlkdmpfifpkpaaaGreatDoor
open Go.RowKit

structure XI (l : List UInt8) (x : Ln) : Prop where
  v : vldL x = true
  n1 : x.n = 1
  m1 : x.m = 1
  k : sk x 0 = rnS 0 l
  t : (101 : UInt8) ∉ l → x.T 0 = 0
theorem XI.zero : XI [] (newL 1 1) := ⟨newL_vld (by omega) (by omega) (by omega), rfl, rfl, by decide, fun _ => rfl⟩
theorem XI.ok {l : List UInt8} {x : Ln} {c : UInt8} (h : XI l x) (hr : rnS 0 (l ++ [c]) < 5) (he : c = 101 → (101 : UInt8) ∉ l) : mvOk x 0 (chr c) = true := by
  have hJ : mvJ x 0 (chr c) = nx (sk x 0) (c.toNat : Int) := mvJ_chr x 0 c
  have hr2 : nx (sk x 0) (c.toNat : Int) < 5 := by
    rw [rnS_app] at hr
    rw [h.k]
    exact hr
  have hf1 : ∀ p : Int, x.T 0 = p → fstA x.T p x.m < x.m := fun p hp => by rw [h.m1]; simp [fstA, hp]
  unfold mvOk
  rw [Bool.and_eq_true, Bool.and_eq_true, inB_true, decide_eq_true_eq, hJ]
  refine ⟨⟨by omega, by rw [h.n1]; decide⟩, hr2, ?_⟩
  by_cases h1 : c = 101
  · subst h1
    have : plI 0 (chr 101) = 0 := by decide
    rw [this, decide_eq_true (hf1 0 (h.t (he rfl)))]
    simp
  by_cases h2 : c = 108
  · subst h2
    have h3 : sk x 0 = 3 := by
      rcases nx_cases hr2 with ⟨a, b, d⟩ | ⟨a, b, d⟩ | ⟨a, b, d⟩ | ⟨a, b, d⟩ | ⟨a, b, d⟩ | ⟨a, b, d⟩ | ⟨a, b, d⟩
      all_goals first | exact a | (exfalso; revert b; decide)
    have hI : x.I 0 = true := by rw [sk_I h.v (by rw [h.n1]; omega), h3]; rfl
    have hc := cnOk_true.1 ((vldL_true h.v).2.2.2.2.2 0 (by rw [h.n1]; omega))
    rw [hI, h.m1] at hc
    have hT : x.T 0 = 1 := by
      by_cases e : x.T 0 = 1
      · exact e
      · exfalso
        simp [cntA, e] at hc
    have : plI 0 (chr 108) = 1 := by decide
    rw [this, decide_eq_true (hf1 1 hT)]
    simp
  · have e1 : eB (chr c) = false := decide_eq_false (fun e => h1 (by simpa [chr] using e))
    have e2 : lB (chr c) = false := decide_eq_false (fun e => h2 (by simpa [chr] using e))
    simp [e1, e2]
end Go.Proofs.YtlkdmpfifpkpaaaGreatDoor
namespace Go.Proofs.YtlkdmpfifpkpaaaGreatDoor
open Go.RowKit

theorem nm0 : nmF ⟨#[48]⟩ = 0 := by decide
theorem cm_l : cmdK ⟨#[108, 105, 110, 101]⟩ 3 = 0 := by decide +kernel
/-- letters of a legal text -/
structure Lgl (L : List UInt8) : Prop where
  run : rnS 0 L < 5
  len : L.length ≤ 12
  cnt : L.count 101 ≤ 1
theorem Lgl.pre {a b : List UInt8} (h : Lgl (a ++ b)) : Lgl a := by
  obtain ⟨h1, h2, h3⟩ := h
  refine ⟨?_, by rw [List.length_append] at h2; omega, by rw [List.count_append] at h3; omega⟩
  rw [rnS_app] at h1
  have := rnS_le (s := 0) (by omega) a
  rcases Nat.lt_or_ge (rnS 0 a) 5 with h | h
  · exact h
  · rw [show rnS 0 a = 5 by omega, rnS_five] at h1
    omega
end Go.Proofs.YtlkdmpfifpkpaaaGreatDoor
namespace Go.Proofs.YtlkdmpfifpkpaaaGreatDoor
open Go.RowKit

theorem itT_small {n : Int} (h0 : 0 ≤ n) (h : n < 10) : itT n = ⟨#[UInt8.ofNat (48 + n.toNat)]⟩ := by
  unfold itT Lib.itoa
  rw [if_neg (by omega), Lib.decDigits_one (by omega)]
def dg1 (n : Int) : ByteArray := ⟨#[UInt8.ofNat (48 + n.toNat % 10)]⟩
theorem itT_big {n : Int} (h0 : 10 ≤ n) : itT n = itT (n / 10) ++ dg1 n := by
  refine ba_ext ?_
  unfold itT dg1 Lib.itoa
  rw [if_neg (by omega), if_neg (by omega), Lib.decDigits, dif_neg (by omega), show (n / 10).toNat = n.toNat / 10 by omega]
  simp
/-- string([]byte{d}) -/
theorem conv1 {d : Int} {k : Nat} {tx : ByteArray} (hd : d = (k : Int)) (hk : k < 256) (htx : tx = ⟨#[UInt8.ofNat k]⟩) (w : World) :
    (convert 22 9 (.slice (some ⟨w.heap.size, 0, none⟩) 1 1)).run Tryz.prog (w.alloc (.cells #[.int .u8 d] 5)) = .ok (.string tx) (w.alloc (.cells #[.int .u8 d] 5)) := by
  subst hd htx
  have q := run_convert_bytes_back (P := Tryz.prog) (w.alloc (.cells #[.int .u8 (k : Int)] 5)) 22 9 5 ⟨w.heap.size, 0, none⟩ 1 [UInt8.ofNat k] Tryz.underlying22 Tryz.underlying5 Tryz.underlying9 (fun j hj => by
    obtain rfl : j = 0 := by simp at hj; omega
    rw [addr_add, World.cell?_alloc_mark]
    simp
    omega)
  exact q
theorem conv2 {d : Int} {k b : Nat} {tx : ByteArray} (hd : d = (k : Int)) (hk : k < 256) (htx : tx = ⟨#[UInt8.ofNat k]⟩) (w : World) (hc : w.cell? ⟨b, 0, none⟩ = some (.int .u8 d)) :
    (convert 22 9 (.slice (some ⟨b, 0, none⟩) 1 1)).run Tryz.prog w = .ok (.string tx) w := by
  subst hd htx
  have q := run_convert_bytes_back (P := Tryz.prog) w 22 9 5 ⟨b, 0, none⟩ 1 [UInt8.ofNat k] Tryz.underlying22 Tryz.underlying5 Tryz.underlying9 (fun j hj => by
    obtain rfl : j = 0 := by simp at hj; omega
    rw [addr_add, hc]
    simp
    omega)
  exact q
set_option linter.unusedSimpArgs false in
set_option maxRecDepth 100000 in
set_option maxHeartbeats 2000000 in
theorem digits_small (n : Int) (w : World) (h0 : 0 ≤ n) (hn : n < 10) : Calls Tryz.prog 19 #[.int .i64 n] w fun e w' => e = .returned (.string (itT n)) ∧ Below w.heap.size w w' := by
  have hw : IntKind.i64.wrap (48 + n) = 48 + n := IntWalk.i64_in _ (by omega)
  have hw2 : IntKind.u8.wrap (48 + n) = 48 + n := IntWalk.u8_in _ (by omega)
  have hcv := conv1 (d := 48 + n) (k := 48 + n.toNat) (by omega) (by omega) (itT_small h0 hn)
  go_enter Tryz.func19, Tryz.ntmps19
  go_wp2_with fail
  go_ret
  exact ⟨rfl, below_all _ _⟩
set_option linter.unusedSimpArgs false in
set_option maxRecDepth 100000 in
set_option maxHeartbeats 2000000 in
theorem digits_any : ∀ (k : Nat) (n : Int) (w : World), n.toNat ≤ k → 0 ≤ n → n ≤ 1000000 → Calls Tryz.prog 19 #[.int .i64 n] w fun e w' => e = .returned (.string (itT n)) ∧ Below w.heap.size w w' := by
  intro k
  induction k with
  | zero =>
    intro n w hk h0 h1
    exact digits_small n w h0 (by omega)
  | succ k ih =>
    intro n w hk h0 h1
    by_cases hn : n < 10
    · exact digits_small n w h0 hn
    · have hn2 : ¬ n < 10 := hn
      have hq : n.tdiv 10 = n / 10 := by rw [Int.tdiv_eq_ediv_of_nonneg h0]
      have hm : n.tmod 10 = n % 10 := by rw [Int.tmod_eq_emod_of_nonneg h0]
      have hw0 : IntKind.i64.wrap (n / 10) = n / 10 := IntWalk.i64_in _ (by omega)
      have hw : IntKind.i64.wrap (48 + n % 10) = 48 + n % 10 := IntWalk.i64_in _ (by omega)
      have hw2 : IntKind.u8.wrap (48 + n % 10) = 48 + n % 10 := IntWalk.u8_in _ (by omega)
      have HBd : Hid (Below w.heap.size w w.drew) := (Below.refl _ _).drew
      have hsz : ¬ 9223372036854775807 < (itT (n / 10)).size + (dg1 n).size := by
        have := itT_size (n / 10) (by omega) (by omega)
        have h1 : (dg1 n).size = 1 := rfl
        omega
      have HIH : Hid (∀ W, Calls Tryz.prog 19 #[.int .i64 (n / 10)] W fun e w' => e = .returned (.string (itT (n / 10))) ∧ Below W.heap.size W w') := fun W => ih (n / 10) W (by omega) (by omega) (by omega)
      go_enter Tryz.func19, Tryz.ntmps19
      go_wp2_with fail
      refine wp_region_held_drew (S := fun W => w.heap.size ≤ W.heap.size) (by kernel_rfl) HBd.out.size (fun hHeld => ?_)
      refine wpAnyH_take (i := 0) (oi := ?_) (v := ?_) ?_ (by kernel_rfl) (by kernel_rfl) (by kernel_rfl) ?_ ?_ (by assumption) ?_
      rotate_left 2
      · simp only [List.getElem?_toArray, List.getElem?_cons_succ, List.getElem?_cons_zero]; rfl
      · exact fun _ _ _ h => h
      · first
          | (refine Or.inr ⟨?_, ?_⟩ <;> rfl)
          | (refine Or.inl ⟨?_, ?_⟩; · rfl
             intro w hSw; (try dsimp only at hSw); go_simp; (try with_reducible rfl); done)
      try simp only [Act.put, List.setIfInBounds_toArray, List.set_cons_zero, List.set_cons_succ]
      refine wpAnyH_take (i := 1) (oi := ?_) (v := ?_) ?_ (by kernel_rfl) (by kernel_rfl) (by kernel_rfl) ?_ ?_ (by assumption) ?_
      rotate_left 2
      · simp only [List.getElem?_toArray, List.getElem?_cons_succ, List.getElem?_cons_zero]; rfl
      · exact fun _ _ _ h => h
      · first
          | (refine Or.inr ⟨?_, ?_⟩ <;> rfl)
          | (refine Or.inl ⟨?_, ?_⟩; · rfl
             intro w hSw; (try dsimp only at hSw); go_simp; (try with_reducible rfl); done)
      try simp only [Act.put, List.setIfInBounds_toArray, List.set_cons_zero, List.set_cons_succ]
      refine wpAnyH_take (i := 3) (oi := ?_) (v := ?_) ?_ (by kernel_rfl) (by kernel_rfl) (by kernel_rfl) ?_ ?_ (by assumption) ?_
      rotate_left 2
      · simp only [List.getElem?_toArray, List.getElem?_cons_succ, List.getElem?_cons_zero]; rfl
      · exact fun _ _ _ h => h
      · first
          | (refine Or.inr ⟨?_, ?_⟩ <;> rfl)
          | (refine Or.inl ⟨?_, ?_⟩; · rfl
             intro w hSw; (try dsimp only at hSw); go_simp; (try with_reducible rfl); done)
      try simp only [Act.put, List.setIfInBounds_toArray, List.set_cons_zero, List.set_cons_succ]
      refine wpAnyH_take (i := 4) (oi := ?_) (v := ?_) ?_ (by kernel_rfl) (by kernel_rfl) (by kernel_rfl) ?_ ?_ (by assumption) ?_
      rotate_left 2
      · simp only [List.getElem?_toArray, List.getElem?_cons_succ, List.getElem?_cons_zero]; rfl
      · exact fun _ _ _ h => h
      · first
          | (refine Or.inr ⟨?_, ?_⟩ <;> rfl)
          | (refine Or.inl ⟨?_, ?_⟩; · rfl
             intro w hSw; (try dsimp only at hSw); go_simp; (try with_reducible rfl); done)
      try simp only [Act.put, List.setIfInBounds_toArray, List.set_cons_zero, List.set_cons_succ]
      refine wpAnyH_take (i := 5) (oi := ?_) (v := ?_) ?_ (by kernel_rfl) (by kernel_rfl) (by kernel_rfl) ?_ ?_ (by assumption) ?_
      rotate_left 2
      · simp only [List.getElem?_toArray, List.getElem?_cons_succ, List.getElem?_cons_zero]; rfl
      · exact fun _ _ _ h => h
      · first
          | (refine Or.inr ⟨?_, ?_⟩ <;> rfl)
          | (refine Or.inl ⟨?_, ?_⟩; · rfl
             intro w hSw; (try dsimp only at hSw); go_simp; (try with_reducible rfl); done)
      try simp only [Act.put, List.setIfInBounds_toArray, List.set_cons_zero, List.set_cons_succ]
      refine wpAnyH_take (i := 6) (oi := ?_) (v := ?_) ?_ (by kernel_rfl) (by kernel_rfl) (by kernel_rfl) ?_ ?_ (by assumption) ?_
      rotate_left 2
      · simp only [List.getElem?_toArray, List.getElem?_cons_succ, List.getElem?_cons_zero]; rfl
      · exact fun _ _ _ h => h
      · first
          | (refine Or.inr ⟨?_, ?_⟩ <;> rfl)
          | (refine Or.inl ⟨?_, ?_⟩; · rfl
             intro w hSw; (try dsimp only at hSw); go_simp; (try with_reducible rfl); done)
      try simp only [Act.put, List.setIfInBounds_toArray, List.set_cons_zero, List.set_cons_succ]
      refine wpAnyH_ready (rs := [2, 7]) (by kernel_rfl) (by simp) ?_
      refine AllReadyH.cons (o := ?_) ?_ (fun K hK => ?_) ?_
      rotate_left 1
      · simp only [List.getElem?_toArray, List.getElem?_cons_succ, List.getElem?_cons_zero]; rfl
      · go_simp
        go_at_call 19
        go_must (refine Calls.mono (HIH.out _) ?_)
        rintro e w1 ⟨rfl, hb1⟩
        have HB1 : Hid (Below w.heap.size w w1) := HBd.out.trans (hb1.mono HBd.out.size)
        refine hK.out _ _ ?_ (fun hHeld => ?_)
        · try dsimp only
          exact HB1.out.size
        clear hK K
        try simp only [Act.put, List.setIfInBounds_toArray, List.set_cons_zero, List.set_cons_succ]
        refine wpAnyH_ready (rs := [7]) (by kernel_rfl) (by simp) ?_
        refine AllReadyH.cons (o := ?_) ?_ (fun K hK => ?_) AllReadyH.nil
        rotate_left 1
        · simp only [List.getElem?_toArray, List.getElem?_cons_succ, List.getElem?_cons_zero]; rfl
        go_simp
        skip
        refine hK.out _ _ ?_ (fun hHeld => ?_)
        · try dsimp only
          exact (HB1.out.alloc HB1.out.size _).size
        clear hK K
        try simp only [Act.put, List.setIfInBounds_toArray, List.set_cons_zero, List.set_cons_succ]
        have hcv1 := conv1 (d := 48 + n % 10) (k := 48 + n.toNat % 10) (tx := dg1 n) (by omega) (by omega) rfl w1
        refine wpAnyH_ready (rs := [8]) (by kernel_rfl) (by simp) ?_
        refine AllReadyH.cons (o := ?_) ?_ (fun K hK => ?_) AllReadyH.nil
        rotate_left 1
        · simp only [List.getElem?_toArray, List.getElem?_cons_succ, List.getElem?_cons_zero]; rfl
        go_simp
        skip
        refine hK.out _ _ ?_ (fun hHeld => ?_)
        · try dsimp only
          exact (HB1.out.alloc HB1.out.size _).size
        clear hK K
        try simp only [Act.put, List.setIfInBounds_toArray, List.set_cons_zero, List.set_cons_succ]
        clear hcv1
        refine wpAnyH_take (i := 9) (oi := ?_) (v := ?_) ?_ (by kernel_rfl) (by kernel_rfl) (by kernel_rfl) ?_ ?_ (by assumption) ?_
        rotate_left 2
        · simp only [List.getElem?_toArray, List.getElem?_cons_succ, List.getElem?_cons_zero]; rfl
        · exact fun _ _ _ h => h
        · first
            | (refine Or.inr ⟨?_, ?_⟩ <;> rfl)
            | (refine Or.inl ⟨?_, ?_⟩; · rfl
               intro w hSw; (try dsimp only at hSw); go_simp; (try with_reducible rfl); done)
        try simp only [Act.put, List.setIfInBounds_toArray, List.set_cons_zero, List.set_cons_succ]
        refine wpAnyH_take (i := 10) (oi := ?_) (v := ?_) ?_ (by kernel_rfl) (by kernel_rfl) (by kernel_rfl) ?_ ?_ (by assumption) ?_
        rotate_left 2
        · simp only [List.getElem?_toArray, List.getElem?_cons_succ, List.getElem?_cons_zero]; rfl
        · exact fun _ _ _ h => h
        · first
            | (refine Or.inr ⟨?_, ?_⟩ <;> rfl)
            | (refine Or.inl ⟨?_, ?_⟩; · rfl
               intro w hSw; (try dsimp only at hSw); go_simp; (try with_reducible rfl); done)
        try simp only [Act.put, List.setIfInBounds_toArray, List.set_cons_zero, List.set_cons_succ]
        refine wpAnyH_done (by kernel_rfl) ?_ _
        clear hHeld
        go_wp2_with fail
        go_ret
        exact ⟨by rw [itT_big (n := n) (by omega)]; rfl, HB1.out.alloc HB1.out.size _⟩
      · refine AllReadyH.cons (o := ?_) ?_ (fun K hK => ?_) ?_
        rotate_left 1
        · simp only [List.getElem?_toArray, List.getElem?_cons_succ, List.getElem?_cons_zero]; rfl
        · have HBA : Hid (Below w.heap.size w (w.drew.alloc (.cells #[.int .u8 (48 + n % 10)] 5))) := HBd.out.alloc HBd.out.size _
          have HXA : Hid (Bx (w.drew.alloc (.cells #[.int .u8 (48 + n % 10)] 5)) w.heap.size 5 #[.int .u8 (48 + n % 10)]) := Bx.newAt rfl
          go_simp
          skip
          refine hK.out _ _ ?_ (fun hHeld => ?_)
          · try dsimp only
            exact HBA.out.size
          clear hK K
          try simp only [Act.put, List.setIfInBounds_toArray, List.set_cons_zero, List.set_cons_succ]
          refine wpAnyH_ready (rs := [2, 8]) (by kernel_rfl) (by simp) ?_
          refine AllReadyH.cons (o := ?_) ?_ (fun K hK => ?_) ?_
          rotate_left 1
          · simp only [List.getElem?_toArray, List.getElem?_cons_succ, List.getElem?_cons_zero]; rfl
          · go_simp
            go_at_call 19
            go_must (refine Calls.mono (HIH.out _) ?_)
            rintro e w1 ⟨rfl, hb1⟩
            have HB1 : Hid (Below w.heap.size w w1) := HBA.out.trans (hb1.mono HBA.out.size)
            have hcv1 := conv2 (d := 48 + n % 10) (k := 48 + n.toNat % 10) (tx := dg1 n) (b := w.heap.size) (by omega) (by omega) rfl w1 ((HXA.out.below hb1 HXA.out.lt).cell 0)
            refine hK.out _ _ ?_ (fun hHeld => ?_)
            · try dsimp only
              exact HB1.out.size
            clear hK K
            try simp only [Act.put, List.setIfInBounds_toArray, List.set_cons_zero, List.set_cons_succ]
            refine wpAnyH_ready (rs := [8]) (by kernel_rfl) (by simp) ?_
            refine AllReadyH.cons (o := ?_) ?_ (fun K hK => ?_) AllReadyH.nil
            rotate_left 1
            · simp only [List.getElem?_toArray, List.getElem?_cons_succ, List.getElem?_cons_zero]; rfl
            go_simp
            skip
            refine hK.out _ _ ?_ (fun hHeld => ?_)
            · try dsimp only
              exact HB1.out.size
            clear hK K
            try simp only [Act.put, List.setIfInBounds_toArray, List.set_cons_zero, List.set_cons_succ]
            clear hcv1
            refine wpAnyH_take (i := 9) (oi := ?_) (v := ?_) ?_ (by kernel_rfl) (by kernel_rfl) (by kernel_rfl) ?_ ?_ (by assumption) ?_
            rotate_left 2
            · simp only [List.getElem?_toArray, List.getElem?_cons_succ, List.getElem?_cons_zero]; rfl
            · exact fun _ _ _ h => h
            · first
                | (refine Or.inr ⟨?_, ?_⟩ <;> rfl)
                | (refine Or.inl ⟨?_, ?_⟩; · rfl
                   intro w hSw; (try dsimp only at hSw); go_simp; (try with_reducible rfl); done)
            try simp only [Act.put, List.setIfInBounds_toArray, List.set_cons_zero, List.set_cons_succ]
            refine wpAnyH_take (i := 10) (oi := ?_) (v := ?_) ?_ (by kernel_rfl) (by kernel_rfl) (by kernel_rfl) ?_ ?_ (by assumption) ?_
            rotate_left 2
            · simp only [List.getElem?_toArray, List.getElem?_cons_succ, List.getElem?_cons_zero]; rfl
            · exact fun _ _ _ h => h
            · first
                | (refine Or.inr ⟨?_, ?_⟩ <;> rfl)
                | (refine Or.inl ⟨?_, ?_⟩; · rfl
                   intro w hSw; (try dsimp only at hSw); go_simp; (try with_reducible rfl); done)
            try simp only [Act.put, List.setIfInBounds_toArray, List.set_cons_zero, List.set_cons_succ]
            refine wpAnyH_done (by kernel_rfl) ?_ _
            clear hHeld
            go_wp2_with fail
            go_ret
            exact ⟨by rw [itT_big (n := n) (by omega)]; rfl, HB1.out⟩
          · refine AllReadyH.cons (o := ?_) ?_ (fun K hK => ?_) ?_
            rotate_left 1
            · simp only [List.getElem?_toArray, List.getElem?_cons_succ, List.getElem?_cons_zero]; rfl
            · have hcv1 : (convert 22 9 (.slice (some ⟨w.heap.size, 0, none⟩) 1 1)).run Tryz.prog (w.alloc (.cells #[.int .u8 (48 + n % 10)] 5)).drew = .ok (.string (dg1 n)) (w.alloc (.cells #[.int .u8 (48 + n % 10)] 5)).drew := conv2 (d := 48 + n % 10) (k := 48 + n.toNat % 10) (tx := dg1 n) (b := w.heap.size) (by omega) (by omega) rfl _ (HXA.out.cell 0)
              go_simp
              skip
              refine hK.out _ _ ?_ (fun hHeld => ?_)
              · try dsimp only
                exact HBA.out.size
              clear hK K
              try simp only [Act.put, List.setIfInBounds_toArray, List.set_cons_zero, List.set_cons_succ]
              clear hcv1
              refine wpAnyH_ready (rs := [2]) (by kernel_rfl) (by simp) ?_
              refine AllReadyH.cons (o := ?_) ?_ (fun K hK => ?_) AllReadyH.nil
              rotate_left 1
              · simp only [List.getElem?_toArray, List.getElem?_cons_succ, List.getElem?_cons_zero]; rfl
              go_simp
              go_at_call 19
              go_must (refine Calls.mono (HIH.out _) ?_)
              rintro e w1 ⟨rfl, hb1⟩
              have HB1 : Hid (Below w.heap.size w w1) := HBA.out.trans (hb1.mono HBA.out.size)
              refine hK.out _ _ ?_ (fun hHeld => ?_)
              · try dsimp only
                exact HB1.out.size
              clear hK K
              try simp only [Act.put, List.setIfInBounds_toArray, List.set_cons_zero, List.set_cons_succ]
              refine wpAnyH_take (i := 9) (oi := ?_) (v := ?_) ?_ (by kernel_rfl) (by kernel_rfl) (by kernel_rfl) ?_ ?_ (by assumption) ?_
              rotate_left 2
              · simp only [List.getElem?_toArray, List.getElem?_cons_succ, List.getElem?_cons_zero]; rfl
              · exact fun _ _ _ h => h
              · first
                  | (refine Or.inr ⟨?_, ?_⟩ <;> rfl)
                  | (refine Or.inl ⟨?_, ?_⟩; · rfl
                     intro w hSw; (try dsimp only at hSw); go_simp; (try with_reducible rfl); done)
              try simp only [Act.put, List.setIfInBounds_toArray, List.set_cons_zero, List.set_cons_succ]
              refine wpAnyH_take (i := 10) (oi := ?_) (v := ?_) ?_ (by kernel_rfl) (by kernel_rfl) (by kernel_rfl) ?_ ?_ (by assumption) ?_
              rotate_left 2
              · simp only [List.getElem?_toArray, List.getElem?_cons_succ, List.getElem?_cons_zero]; rfl
              · exact fun _ _ _ h => h
              · first
                  | (refine Or.inr ⟨?_, ?_⟩ <;> rfl)
                  | (refine Or.inl ⟨?_, ?_⟩; · rfl
                     intro w hSw; (try dsimp only at hSw); go_simp; (try with_reducible rfl); done)
              try simp only [Act.put, List.setIfInBounds_toArray, List.set_cons_zero, List.set_cons_succ]
              refine wpAnyH_done (by kernel_rfl) ?_ _
              clear hHeld
              go_wp2_with fail
              go_ret
              exact ⟨by rw [itT_big (n := n) (by omega)]; rfl, HB1.out⟩
            · exact AllReadyH.nil
        · exact AllReadyH.nil
theorem digits_val (n : Int) (w : World) (h0 : 0 ≤ n) (h1 : n ≤ 1000000) : Calls Tryz.prog 19 #[.int .i64 n] w fun e w' => e = .returned (.string (itT n)) ∧ Below w.heap.size w w' := digits_any n.toNat n w (Nat.le_refl _) h0 h1
theorem itT_size100 {n : Int} (h0 : 0 ≤ n) (h1 : n ≤ 1000000) : (itT n).size ≤ 21 := itT_size n (by omega) (by omega)
theorem exT_it (a b : Nat) : exT a b = ⟨#[116, 114, 97, 105, 110, 115, 32]⟩ ++ itT a ++ ⟨#[32, 112, 97, 116, 104, 115, 32]⟩ ++ itT b ++ ⟨#[10]⟩ := by
  unfold exT itT
  rw [Lib.itoa_nonneg, Lib.itoa_nonneg]
set_option linter.unusedSimpArgs false in
theorem endLine_any (a b : Nat) (w : World) (ha : a ≤ 1000000) (hb : b ≤ 1000000) :
    Calls Tryz.prog 21 #[.int .i64 a, .int .i64 b] w fun e w' => e = .returned (.string (exT a b)) ∧ Below w.heap.size w w' := by
  have HE := Lib.hid (exT_it a b)
  have hsa := itT_size100 (n := a) (by omega) (by omega)
  have hsb := itT_size100 (n := b) (by omega) (by omega)
  have HDA : Hid (∀ W, Calls Tryz.prog 19 #[.int .i64 a] W fun e w' => e = .returned (.string (itT a)) ∧ Below W.heap.size W w') := fun W => digits_val a W (by omega) (by omega)
  have HDB : Hid (∀ W, Calls Tryz.prog 19 #[.int .i64 b] W fun e w' => e = .returned (.string (itT b)) ∧ Below W.heap.size W w') := fun W => digits_val b W (by omega) (by omega)
  generalize itT a = ta at *
  generalize itT b = tb at *
  have hz1 : ¬ 9223372036854775807 < (⟨#[116, 114, 97, 105, 110, 115, 32]⟩ : ByteArray).size + ta.size := by have : (⟨#[116, 114, 97, 105, 110, 115, 32]⟩ : ByteArray).size = 7 := rfl; omega
  go_enter Tryz.func21, Tryz.ntmps21
  go_wp2_with fail
  refine (HDA.out _).mono ?_
  rintro e w1 ⟨rfl, hb1⟩
  go_wp2_with fail
  refine (HDB.out _).mono ?_
  rintro e w2 ⟨rfl, hb2⟩
  go_wp2_with fail
  go_ret
  exact ⟨by rw [HE.out]; rfl, hb1.trans (hb2.mono hb1.size)⟩
end Go.Proofs.YtlkdmpfifpkpaaaGreatDoor
namespace Go.Proofs.YtlkdmpfifpkpaaaGreatDoor
open Go.RowKit

theorem join_snoc (xs : List (List UInt8)) (y : List UInt8) (h : xs ≠ []) : Lib.join (xs ++ [y]) [32] = Lib.join xs [32] ++ 32 :: y := by
  cases xs with
  | nil => exact absurd rfl h
  | cons x r =>
    rw [List.cons_append, Lib.join_cons, Lib.join_cons]
    simp [Lib.joinTail]
theorem jn_snoc (tx : Nat → ByteArray) (n : Nat) (h : 0 < n) : (jnT tx (n + 1)).data.toList = (jnT tx n).data.toList ++ 32 :: (tx n).data.toList := by
  unfold jnT
  show (Lib.join _ [32]).toArray.toList = (Lib.join _ [32]).toArray.toList ++ _
  rw [List.range_succ, List.map_append, List.map_cons, List.map_nil, List.toList_toArray, List.toList_toArray, join_snoc _ _ (by
    intro e
    have := congrArg List.length e
    simp at this
    omega)]
theorem jn_congr {tx ty : Nat → ByteArray} {n : Nat} (h : ∀ i, i < n → tx i = ty i) : jnT tx n = jnT ty n := by
  unfold jnT
  have : ((List.range n).map fun i => (tx i).data.toList) = ((List.range n).map fun i => (ty i).data.toList) := List.map_congr_left (fun i hi => by rw [h i (by simpa using hi)])
  rw [this]
end Go.Proofs.YtlkdmpfifpkpaaaGreatDoor
namespace Go.Proofs.YtlkdmpfifpkpaaaGreatDoor
open Go.RowKit

theorem SesOk.tb {st : Ses} (h : SesOk st) : ∀ k, k < st.x.m → -1000000 ≤ st.x.T k ∧ st.x.T k ≤ 1000000 := fun k hk => by
  have hb := vldL_true h.xv
  have ht := (trOk_true.1 (hb.2.2.2.2.1 k hk)).1
  omega
def lnF (c d : UInt8) : ByteArray := ⟨#[108, 105, 110, 101, 32, c, 32, d]⟩
theorem lnF_w {c d : UInt8} (h : c ≠ 32) (h' : d ≠ 32) : wdL (lnF c d) = [⟨#[108, 105, 110, 101]⟩, chr c, chr d] := wdL_of (by simp [lnF, chr, spB, h, h'])
def dgU (a : Nat) : UInt8 := UInt8.ofNat (48 + a)
theorem dg_nm {a : Nat} (h : a < 10) : nmF (chr (dgU a)) = a ∧ dgU a ≠ 32 ∧ dgU a ≠ 10 ∧ itT (a : Int) = chr (dgU a) := by
  have h2 : ∀ a : Fin 10, nmF (chr (dgU a.val)) = (a.val : Int) ∧ dgU a.val ≠ 32 ∧ dgU a.val ≠ 10 ∧ itT (a.val : Int) = chr (dgU a.val) := by decide +kernel
  exact h2 ⟨a, h⟩
def nwS (a m : Nat) : Ses := { x := newL a m, tm := 0, ms := [], ts := [] }
theorem jn_size {tx : Nat → ByteArray} {n B : Nat} (h : ∀ i, i < n → (tx i).size ≤ B) : (jnT tx n).size ≤ n * (B + 1) := by
  have := join_len ((List.range n).map fun i => (tx i).data.toList) 32 B (fun x hx => by
    simp only [List.mem_map, List.mem_range] at hx
    obtain ⟨i, hi, rfl⟩ := hx
    simpa using h i hi)
  simp only [List.length_map, List.length_range] at this
  show (Lib.join _ [32]).toArray.size ≤ _
  simpa using this
end Go.Proofs.YtlkdmpfifpkpaaaGreatDoor
namespace Go.Proofs.YtlkdmpfifpkpaaaGreatDoor
open Go.RowKit

theorem PsOk.nil {n : Nat} (h1 : 1 ≤ n) (h2 : n ≤ 5) : PsOk n [] := ⟨h1, h2, Nat.zero_le _, fun i hi => by simp at hi, fun i j k hi => by simp at hi⟩
theorem clB_free {p q : Pt} {n k : Nat} {t r : Int} (hp : ptOk p n = true) (hk : k < n) (h : frK p k t r = false) (hI : q.I k = t) (hO : q.O k = t + r) : clB p q k = false := by
  have h1 := ptOk_at hp hk
  unfold frK at h
  unfold clB
  rw [hI, hO]
  by_cases a : p.I k < t + r
  · by_cases b : t < p.O k
    · rw [decide_eq_true a, decide_eq_true b] at h
      cases h
    · rw [decide_eq_false b, Bool.and_false]
  · rw [decide_eq_false a, Bool.false_and]
/-- what is known of the first sections of a fitted path -/
theorem fitL_ok {ps : List Pt} {f : Nat → Int} {t : Int} {n : Nat} (hk : PsOk n ps) (hf : ∀ k, k < n → 1 ≤ f k ∧ f k ≤ 100) (ht : 0 ≤ t ∧ t ≤ 1000000) : ∀ (k : Nat) (l : List Int), k ≤ n → fitL ps f t k = some l → ∀ i, i < k → ((if i = 0 then t else (ftP l f n).O (i - 1)) ≤ (ftP l f n).I i ∧ (ftP l f n).O i = (ftP l f n).I i + f i ∧ (ftP l f n).O i ≤ 2000) ∧ ∀ j, j < ps.length → frK (pA ps j) i ((ftP l f n).I i) (f i) = false
  | 0, l, _, _, i, hi => by omega
  | k + 1, l, hkn, h, i, hi => by
    unfold fitL at h
    split at h
    · cases h
    · rename_i l0 h0
      split at h
      · cases h
      · rename_i u hu
        cases h
        have hl := fitL_len k l0 h0
        by_cases e : i = k
        · subst e
          have h2 := frO_bd hu
          have h3 := hf i (by omega)
          have h4 := ftP_new l0 u f n
          rw [hl] at h4
          refine ⟨⟨?_, by rw [h4.1, h4.2], by rw [h4.2]; omega⟩, fun j hj => ?_⟩
          · rw [h4.1]
            by_cases e0 : i = 0
            · subst e0
              rw [if_pos rfl]
              have : l0 = [] := List.length_eq_zero_iff.1 hl
              subst this
              exact h2.1
            · rw [if_neg e0, (ftP_old l0 u f n (i := i - 1) (by omega)).2]
              have h5 := h2.1
              unfold rdyT at h5
              obtain ⟨v, hv⟩ : ∃ v, l0[i - 1]? = some v := ⟨_, List.getElem?_eq_getElem (by omega)⟩
              have h6 : l0.getLast? = some v := by
                rw [List.getLast?_eq_getElem?, hl]
                exact hv
              rw [h6, hl] at h5
              have h7 : (ftP l0 f n).O (i - 1) = v + f (i - 1) := by
                unfold ftP
                simp [hv]
              rw [h7]
              exact h5
          · rw [h4.1]
            have h8 := allB_true.1 h2.2.2 j hj
            simpa using h8
        · have ih := fitL_ok hk hf ht k l0 (by omega) h0 i (by omega)
          have h1 := ftP_old l0 u f n (i := i) (by omega)
          rw [h1.1, h1.2]
          refine ⟨⟨?_, ih.1.2.1, ih.1.2.2⟩, ih.2⟩
          by_cases e0 : i = 0
          · have := ih.1.1
            rw [if_pos e0] at this ⊢
            exact this
          · have := ih.1.1
            rw [if_neg e0] at this ⊢
            rw [(ftP_old l0 u f n (i := i - 1) (by omega)).2]
            exact this
theorem psOk_add {ps : List Pt} {n : Nat} {f : Nat → Int} {t : Int} {l : List Int} (hk : PsOk n ps) (ht : 0 ≤ t ∧ t ≤ 1000000) (h : adO ps n n f t = some l) : PsOk n (ps ++ [ftP l f n]) := by
  unfold adO at h
  split at h
  · cases h
  · rename_i h8
    unfold ftO at h
    split at h
    · rename_i hr
      have hrp := rvB_parts hr
      have hf := hrp.2.2
      have key := fitL_ok hk hf ht n l (Nat.le_refl _) h
      have hlen := hk.len
      have hok : ptOk (ftP l f n) n = true := ptOk_yes (inB_true.2 hrp.1) rfl rfl (fun k hkn => vkB_true.2 (by
        have h1 := (key k hkn).1
        have h2 := hf k hkn
        unfold prO
        by_cases e : k = 0
        · rw [if_pos e] at h1 ⊢
          omega
        · rw [if_neg e] at h1 ⊢
          omega))
      refine ⟨hk.n1, hk.n5, by simp; omega, fun i hi => ?_, fun i j k hi hj hkn => ?_⟩
      · by_cases e : i = ps.length
        · subst e
          rw [pA_new]
          exact hok
        · have : i < ps.length := by simp at hi; omega
          rw [← pA_old this]
          exact hk.ok i this
      · by_cases e : i = ps.length
        · subst e
          rw [pA_new, ← pA_old hj]
          have h1 := key k hkn
          exact clB_free (hk.ok j hj) hkn (h1.2 j hj) rfl h1.1.2.1
        · have hi2 : i < ps.length := by simp at hi; omega
          rw [← pA_old hi2, ← pA_old (by omega)]
          exact hk.nc i j k hi2 hj hkn
    · cases h
theorem ansP_busy {st : Ses} {ps : List Pt} {t : ByteArray} (ht : t.size ≤ 1000) (hk : PsOk st.x.n ps) (hc : cmdK (wd0 t) (wdL t).length = 8) (hl : (wdL t).length = 2) : AnsP st ps t st ps (byO st ps (wdI t 1)) :=
  fun z s m own w _ _ hW hS => lineP_some z s 8 t m st _ ps _ _ own w ht hW.mx hc (by omega) hS fun W bw hS2 hb hw _ =>
    doBusy_any z s bw (wdL t).length (wdL t).length (wdI t 1) m st ps own W (by omega) (hW.below hb) hS2 hk (hw 1 (by omega))
theorem ansP_fit {st : Ses} {ps : List Pt} {t : ByteArray} (ht : t.size ≤ 1000) (hk : PsOk st.x.n ps) (hc : cmdK (wd0 t) (wdL t).length = 7) (hl : (wdL t).length = st.x.n + 2) : AnsP st ps t st (ftS st ps t) (ftT st ps t) :=
  fun z s m own w hz hz2 hW hS => lineP_some z s 7 t m st _ ps _ _ own w ht hW.mx hc (by omega) hS fun W bw hS2 hb hw _ =>
    doFit_any z s bw t m st ps own W (Nat.le_trans hz hb.size) hz2 (hW.below hb) hS2 hk hl hw
end Go.Proofs.YtlkdmpfifpkpaaaGreatDoor
