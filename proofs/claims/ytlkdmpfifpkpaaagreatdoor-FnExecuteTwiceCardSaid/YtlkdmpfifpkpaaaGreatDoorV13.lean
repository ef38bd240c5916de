/-
  Parts of the proof: Lr Sa Sc. No condition.
-/
import Derived.Test.YtlkdmpfifpkpaaaGreatDoorV12
namespace Go.Proofs.YtlkdmpfifpkpaaaGreatDoor
open Go.RowKit
def nilLn : Value := .agg #[.slice none 0 0, .slice none 0 0]
def LrR (o : Option Ln) (w : World) (e : Ending) (w' : World) : Prop :=
 Below w.heap.size w w' ∧ ((o = none ∧ e = .returned (.tuple #[nilLn, .bool false])) ∨ (∃ y v, o = some y ∧ e = .returned (.tuple #[v, .bool true]) ∧ LnO w.heap.size w' v y))
def rnO (x : Ln) (M : Nat → Int) (L : Nat → ByteArray) (q : Nat) : Option Ln := if vldL x = true then runO x M L q else none
structure LrM (w wr : World) (r gb cb gt ct : Nat) (y : Ln) : Prop where
  rw : RwC wr r gb cb gt ct y
  res : Bx wr (w.heap.size + 1) 31 #[.slice none 0 0, .slice none 0 0]
  bl : Below w.heap.size w wr
  h1 : w.heap.size + 2 ≤ r
  h2 : w.heap.size + 2 ≤ gb
  h3 : w.heap.size + 2 ≤ gt
theorem LrM.below {w wr w' : World} {r gb cb gt ct D : Nat} {y : Ln} (h : LrM w wr r gb cb gt ct y) (hb : Below D wr w') (hD : D = wr.heap.size) : LrM w w' r gb cb gt ct y := by
 subst hD
 exact ⟨h.rw.below hb (Nat.le_refl _), h.res.below hb h.res.lt, h.bl.trans (hb.mono h.bl.size), h.h1, h.h2, h.h3⟩
theorem LrM.step {w wr w' : World} {r gb cb gt ct : Nat} {y z : Ln} (h : LrM w wr r gb cb gt ct y) (hr : RwC w' r gb cb gt ct z) (hb : Below (w.heap.size + 2) wr w') : LrM w w' r gb cb gt ct z :=
 ⟨hr, h.res.below hb (by omega), h.bl.trans (hb.mono (by omega)), h.h1, h.h2, h.h3⟩
theorem LnO.setOther {B : Nat} {w : World} {v : Value} {x : Ln} (h : LnO B w v x) {b o : Nat} (hb : b < B) (u : Value) : LnO B (w.setCell ⟨b, o, none⟩ u) v x := by
 obtain ⟨g1, c1, g2, c2, e, h1, h2, h3, h4, h5⟩ := h
 exact ⟨g1, c1, g2, c2, e, h1.setOther (by dsimp only; omega) _, h2.setOther (by dsimp only; omega) _, h3, h4, h5⟩
set_option linter.unusedSimpArgs false in
set_option maxHeartbeats 2000000 in
theorem lineRun_any (bb bo cb tb tu ct mb mo q mc : Nat) (x : Ln) (M : Nat → Int) (L : Nat → ByteArray) (w : World) (hn : x.n ≤ 1000000000000) (hm : x.m ≤ 1000000000000) (hq : q ≤ 1000000000000) (hbk : BkC w bb bo x.n x.N x.I x.O) (hic : IC w tb tu x.m x.T) (hmv : MvsC w mb mo q M L) :
    Calls Tryz.prog 124 #[.agg #[.slice (some ⟨bb, bo, none⟩) x.n cb, .slice (some ⟨tb, tu, none⟩) x.m ct], .slice (some ⟨mb, mo, none⟩) q mc] w (LrR (rnO x M L q) w) := by
  have HBB : Hid (∀ a b, Below w.heap.size w ((w.alloc a).alloc b)) := fun a b => (below_all _ _).alloc (by simp) _
  have HMV : Hid (∀ w', Below w.heap.size w w' → MvsC w' mb mo q M L) := fun w' hb => hmv.keep hb
  have HRW : Hid (∀ w', Below w.heap.size w w' → Calls Tryz.prog 141 #[.agg #[.slice (some ⟨bb, bo, none⟩) x.n cb, .slice (some ⟨tb, tu, none⟩) x.m ct]] w' (RwO x w')) := fun w' hb => by
   refine railwayOf_any bb bo cb tb tu ct x w' hn hm ?_ (hic.keep hb)
   intro k hk
   obtain ⟨h0, h1, h2⟩ := hbk k hk
   have hlt : bb < w.heap.size := World.block_lt_of_cell? w ⟨bb, bo + k * 3, none⟩ h0
   exact ⟨by rw [hb.cell (p := ⟨bb, bo + k * 3, none⟩) hlt]; exact h0, by rw [hb.cell (p := ⟨bb, bo + k * 3 + 1, none⟩) hlt]; exact h1, by rw [hb.cell (p := ⟨bb, bo + k * 3 + 2, none⟩) hlt]; exact h2⟩
  clear hbk hic hmv
  go_enter Tryz.func124, Tryz.ntmps124
  go_wp2_with fail
  refine (HRW.out _ (HBB.out _ _)).mono ?_
  rintro e w1 ⟨hb1, h1⟩
  have HX1 : Hid (Bx w1 (w.heap.size + 1) 31 #[.slice none 0 0, .slice none 0 0]) := (Bx.newAt (by simp)).below hb1 (by simp)
  have HB1 : Hid (Below w.heap.size w w1) := (HBB.out _ _).trans (hb1.mono (by simp; omega))
  have hrc := HX1.out.cell
  have hrf := HX1.out.free
  rcases h1 with ⟨hv, s, rfl, hs⟩ | ⟨hv, rfl⟩
  ·obtain ⟨r, gb, cb', gt, ct', rfl, hrw, k1, k2, k3⟩ := hs
   simp only [World.size_alloc] at k1 k2 k3
   have HL : Hid (LrM w w1 r gb cb' gt ct' x) := ⟨hrw, HX1.out, HB1.out, by omega, by omega, by omega⟩
   have HV : Hid (rnO x M L q = runO x M L q) := if_pos hv
   clear hb1 hv hrw HX1 HB1 hrc hrf k1 k2 k3
   go_wp2_with fail
   go_loopw [9, 20] (fun _ i wr => ∃ k : Nat, ∃ y : Ln, k ≤ q ∧ i = .int .i64 k ∧ Hid (runO x M L k = some y) ∧ Hid (LrM w wr r gb cb' gt ct' y)) (fun _ i _ => q - (intOf i).toNat)
   case atStart => exact ⟨0, x, Nat.zero_le _, rfl, Lib.hid rfl, HL⟩
   case round =>
    obtain ⟨k, y, hk, rfl, HY, HM⟩ := hrel
    have HNM := Lib.hid (runO_nm HY.out)
    by_cases hlt : k < q
    ·obtain ⟨c0, c1⟩ := (HMV.out _ HM.out.bl).at k hlt
     have HMa : Hid (∀ a, LrM w (wr.alloc a) r gb cb' gt ct' y) := fun a => HM.out.below ((Below.refl wr.heap.size wr).alloc (Nat.le_refl _) a) rfl
     have HMO : Hid (∀ a, Calls Tryz.prog 142 #[.pointer (some ⟨r, 0, none⟩), .agg #[.int .i64 (M k), .string (L k)]] (wr.alloc a) (MvR (w.heap.size + 2) r gb cb' gt ct' y (M k) (L k) (wr.alloc a))) := fun a => by
      obtain ⟨e1, e2⟩ := HNM.out
      have hz := (HMa.out a).res.lt
      exact move_any (w.heap.size + 2) r gb cb' gt ct' y (M k) (L k) _ (by omega) (by omega) (HMa.out a).rw ⟨HM.out.h2, HM.out.h3, by omega⟩
     cases ho : mvOk y (M k) (L k)
     ·have HO := Lib.hid ho
      have HN : Hid (rnO x M L q = none) := by
       have h1 : runO x M L (k + 1) = none := by simp only [runO, HY.out, Option.bind_some, stepO, ho]; rfl
       rw [HV.out]; exact runO_none h1 q (by omega)
      clear ho
      go_wp2_with fail
      refine (HMO.out _).mono ?_
      rintro e w2 ⟨rfl, hr2, hb2⟩
      rw [HO.out]
      rw [HO.out] at hr2
      have HM2 := Lib.hid ((HMa.out _).step hr2 hb2)
      have hxc := HM2.out.res.cell
      have hxf := HM2.out.res.free
      clear hr2 hb2
      go_wp2_with fail
      exact bodyPost_ret (v := .tuple #[nilLn, .bool false]) (by simp [results, Tryz.results124, go_sem, hxc, nilLn]) rfl ⟨(HM2.out.bl.setCell (by dsimp only; omega) _).setCell (by dsimp only; omega) _, .inl ⟨HN.out, rfl⟩⟩
     ·have HO := Lib.hid ho
      have HN : Hid (runO x M L (k + 1) = some (mvTo y (M k) (L k))) := by
       show _ = _
       simp only [runO, HY.out, Option.bind_some, stepO, ho]; rfl
      clear ho
      go_wp2_with fail
      refine (HMO.out _).mono ?_
      rintro e w2 ⟨rfl, hr2, hb2⟩
      rw [HO.out]
      rw [HO.out, if_pos rfl] at hr2
      have HM2 := Lib.hid ((HMa.out _).step hr2 hb2)
      clear hr2 hb2
      go_wp2_with fail
      go_roundw
      case rel => exact ⟨k + 1, _, by omega, by go_num, HN, HM2⟩
      case measure => simp [intOf]; omega
    ·obtain e : k = q := by omega
     subst e
     have hxc := HM.out.res.cell
     have hxf := HM.out.res.free
     have HLI : Hid (Calls Tryz.prog 143 #[.pointer (some ⟨r, 0, none⟩)] wr fun e w' => ∃ v, e = .returned v ∧ LnO wr.heap.size w' v y ∧ Below wr.heap.size wr w') := by
      obtain ⟨e1, e2⟩ := HNM.out
      exact line_any r gb cb' gt ct' y _ (by omega) (by omega) HM.out.rw
     go_wp2_with fail
     refine HLI.out.mono ?_
     rintro e w2 ⟨v, rfl, hl, hb⟩
     have HL2 := Lib.hid hl
     have HM2 := Lib.hid (HM.out.below hb rfl)
     obtain ⟨g1, c1, g2, c2, rfl, _⟩ := hl
     clear hb hxc hxf
     have hxc := HM2.out.res.cell
     have hxf := HM2.out.res.free
     have hz2 := HM.out.res.lt
     go_wp2_with fail
     refine bodyPost_ret (v := .tuple #[.agg #[.slice (some ⟨g1, 0, none⟩) y.n c1, .slice (some ⟨g2, 0, none⟩) y.m c2], .bool true]) (by simp [results, Tryz.results124, go_sem, hxc]) rfl ⟨(HM2.out.bl.setCell (by dsimp only; omega) _).setCell (by dsimp only; omega) _, .inr ⟨y, _, by rw [HV.out]; exact HY.out, rfl, (((HL2.out.mono (D := w.heap.size + 2) (by omega)).setOther (by omega) _).setOther (by omega) _).mono (by omega)⟩⟩
  ·have HV : Hid (rnO x M L q = none) := by show _ = _; unfold rnO; rw [hv]; rfl
   clear hv hb1
   go_wp2_with fail
   exact bodyPost_ret (v := .tuple #[nilLn, .bool false]) (by simp [results, Tryz.results124, go_sem, hrc, nilLn]) rfl ⟨(HB1.out.setCell (by dsimp only; omega) _).setCell (by dsimp only; omega) _, .inl ⟨HV.out, rfl⟩⟩
structure VdM (w wr : World) (v1 v2 : Value) : Prop where
  box : Bx wr w.heap.size 31 #[v1, v2]
  bl : Below w.heap.size w wr
theorem VdM.below {w wr w' : World} {v1 v2 : Value} {D : Nat} (h : VdM w wr v1 v2) (hb : Below D wr w') (hD : D = wr.heap.size) : VdM w w' v1 v2 := by
 subst hD
 exact ⟨h.box.below hb h.box.lt, h.bl.trans (hb.mono h.bl.size)⟩
theorem BkC.keep {w w' : World} {b off n : Nat} {N : Nat → Int} {I O : Nat → Bool} (h : BkC w b off n N I O) (hb : Below w.heap.size w w') : BkC w' b off n N I O := fun k hk => by
 obtain ⟨h0, h1, h2⟩ := h k hk
 have hlt : b < w.heap.size := World.block_lt_of_cell? w ⟨b, off + k * 3, none⟩ h0
 exact ⟨by rw [hb.cell (p := ⟨b, off + k * 3, none⟩) hlt]; exact h0, by rw [hb.cell (p := ⟨b, off + k * 3 + 1, none⟩) hlt]; exact h1, by rw [hb.cell (p := ⟨b, off + k * 3 + 2, none⟩) hlt]; exact h2⟩
set_option linter.unusedSimpArgs false in
set_option maxHeartbeats 4000000 in
theorem specLineValid_any (bb bo cb tb tu ct : Nat) (x : Ln) (w : World) (hn : x.n ≤ 1000000000000) (hm : x.m ≤ 1000000000000) (hbk : BkC w bb bo x.n x.N x.I x.O) (hic : IC w tb tu x.m x.T) :
    Calls Tryz.prog 80 #[.agg #[.slice (some ⟨bb, bo, none⟩) x.n cb, .slice (some ⟨tb, tu, none⟩) x.m ct]] w fun e w' => e = .returned (.bool (vldL x)) ∧ Below w.heap.size w w' := by
  have HM0 : Hid (VdM w (w.alloc (.cells #[.slice (some ⟨bb, bo, none⟩) x.n cb, .slice (some ⟨tb, tu, none⟩) x.m ct] 31)) (.slice (some ⟨bb, bo, none⟩) x.n cb) (.slice (some ⟨tb, tu, none⟩) x.m ct)) := ⟨Bx.new _ _ _, below_all _ _⟩
  have HKB : Hid (∀ w', Below w.heap.size w w' → BkC w' bb bo x.n x.N x.I x.O) := fun w' hb => hbk.keep hb
  have HKT : Hid (∀ w', Below w.heap.size w w' → IC w' tb tu x.m x.T) := fun w' hb => hic.keep hb
  clear hbk hic
  go_enter Tryz.func80, Tryz.ntmps80
  go_wp2_with fail
  generalize hW0 : w.alloc (.cells #[.slice (some ⟨bb, bo, none⟩) x.n cb, .slice (some ⟨tb, tu, none⟩) x.m ct] 31) = W0 at *
  clear hW0
  have hrc := HM0.out.box.cell
  cases hs : inB x.n 1 5
  ·have HS := Lib.hid hs
   have HV := Lib.hid (vldL_sec hs)
   clear hs
   refine (l6In_any _ _ _ _).mono ?_
   rintro e w1 ⟨rfl, rfl⟩
   rw [HS.out]
   go_wp2_with fail
   go_ret
   exact ⟨retB HV.out.symm, HM0.out.bl⟩
  have HS := Lib.hid hs
  have hsn := inB_true.1 hs
  have HW2 : Hid (IntKind.i64.wrap (2 * (x.n : Int)) = 2 * (x.n : Int)) := IntWalk.i64_in _ (by omega)
  clear hs
  refine (l6In_any _ _ _ _).mono ?_
  rintro e w1 ⟨rfl, rfl⟩
  rw [HS.out]
  by_cases h5 : ¬ x.m ≤ 5
  ·have HV := Lib.hid (vldL_many h5)
   have g5 : (5 : Int) < (x.m : Int) := by omega
   clear h5
   go_wp2_with fail
   go_ret
   exact ⟨retB HV.out.symm, HM0.out.bl⟩
  replace h5 := Decidable.not_not.1 h5
  have g5 : ¬ (5 : Int) < (x.m : Int) := by omega
  go_wp2_with fail
  go_loopw [4] (fun s wr => ∃ i : Nat, i ≤ x.m ∧ s = .int .i64 i ∧ Hid (∀ j, j < i → trOk x j = true) ∧ Hid (VdM w wr (.slice (some ⟨bb, bo, none⟩) x.n cb) (.slice (some ⟨tb, tu, none⟩) x.m ct))) (fun s _ => x.m - (intOf s).toNat)
  case atStart => exact ⟨0, Nat.zero_le _, rfl, Lib.hid (fun j hj => by omega), HM0⟩
  case round =>
   clear hrc
   obtain ⟨i, hi, rfl, HA, HM⟩ := hrel
   have hrc := HM.out.box.cell
   by_cases hlt : i < x.m
   ·have hci := (HKT.out _ HM.out.bl).at i hlt
    have HMd := Lib.hid (HM.out.below (Below.refl wr.heap.size wr).drew rfl)
    by_cases a1 : ¬ (0 ≤ x.T i ∧ x.T i ≤ 2 * (x.n : Int))
    ·have HV := Lib.hid (vldL_tr hlt (trOk_out a1))
     have HI : Hid (inB (x.T i) 0 (2 * (x.n : Int)) = false) := inB_false.2 a1
     clear a1
     go_wp2_with fail
     refine wp_region_held_drew (S := (fun w' => w'.cell? ⟨w.heap.size, 1, none⟩ = some (.slice (some ⟨tb, tu, none⟩) x.m ct) ∧ w'.cell? ⟨tb, tu + i, none⟩ = some (.int .i64 (x.T i)))) (by kernel_rfl) ?_ (fun hHeld => ?_)
     ·try dsimp only
      go_keep
     refine tkR 0 ?_
     refine tkR 1 ?_
     refine tkR 2 ?_
     refine tkR 3 ?_
     refine tkR 4 ?_
     refine tkR 5 ?_
     refine tkR 6 ?_
     refine r1R 7 (fun K hK => ?_)
     go_simp
     go_at_call 43
     go_must (refine Calls.mono (l6In_any _ _ _ _) ?_)
     rintro e w2 ⟨rfl, rfl⟩
     (try rw [HW2.out])
     rw [HI.out]
     refine oR hK ?_ (fun hHeld => ?_)
     ·try dsimp only
      go_keep
     clear hK K
     refine tkR 8 ?_
     refine tkR 9 ?_
     refine tkR 10 ?_
     refine tkR 11 ?_
     refine tkR 12 ?_
     refine tkR 13 ?_
     refine tkR 14 ?_
     refine tkR 15 ?_
     refine tkR 16 ?_
     refine tkR 17 ?_
     refine tkR 18 ?_
     refine tkR 19 ?_
     refine tkR 20 ?_
     refine tkR 21 ?_
     refine tkR 22 ?_
     refine tkR 23 ?_
     refine tkR 24 ?_
     refine tkR 25 ?_
     refine tkR 26 ?_
     refine wpAnyH_done (by kernel_rfl) ?_ _
     go_wp2_with fail
     go_ret
     exact ⟨retB HV.out.symm, HMd.out.bl⟩
    replace a1 := Decidable.not_not.1 a1
    have HI : Hid (inB (x.T i) 0 (2 * (x.n : Int)) = true) := inB_true.2 a1
    rcases Nat.eq_zero_or_pos i with h0 | h0
    ·subst h0
     have HN := Lib.hid (all_next HA.out (trOk_of (by omega) (by omega) (.inl rfl)))
     rw [Nat.add_zero] at hci
     clear a1
     go_wp2_with fail
     refine wp_region_held_drew (S := (fun w' => w'.cell? ⟨w.heap.size, 1, none⟩ = some (.slice (some ⟨tb, tu, none⟩) x.m ct) ∧ w'.cell? ⟨tb, tu, none⟩ = some (.int .i64 (x.T 0)))) (by kernel_rfl) ?_ (fun hHeld => ?_)
     ·try dsimp only
      go_keep
     refine tkR 0 ?_
     refine tkR 1 ?_
     refine tkR 2 ?_
     refine tkR 3 ?_
     refine tkR 4 ?_
     refine tkR 5 ?_
     refine tkR 6 ?_
     refine r1R 7 (fun K hK => ?_)
     go_simp
     go_at_call 43
     go_must (refine Calls.mono (l6In_any _ _ _ _) ?_)
     rintro e w2 ⟨rfl, rfl⟩
     (try rw [HW2.out])
     rw [HI.out]
     refine oR hK ?_ (fun hHeld => ?_)
     ·try dsimp only
      go_keep
     clear hK K
     refine tkR 8 ?_
     refine tkR 9 ?_
     refine tkR 10 ?_
     refine tkR 11 ?_
     refine tkR 12 ?_
     refine tkR 13 ?_
     refine tkR 14 ?_
     refine tkR 15 ?_
     refine tkR 16 ?_
     refine tkR 17 ?_
     refine tkR 18 ?_
     refine tkR 19 ?_
     refine tkR 20 ?_
     refine tkR 21 ?_
     refine tkR 22 ?_
     refine tkR 23 ?_
     refine tkR 24 ?_
     refine tkR 25 ?_
     refine tkR 26 ?_
     refine wpAnyH_done (by kernel_rfl) ?_ _
     go_wp2_with fail
     go_roundw
     case rel => exact ⟨1, by omega, by go_num, HN, HMd⟩
     case measure => simp [intOf]; omega
    have h0' : (0 : Int) < (i : Int) := by omega
    have hi1 : i - 1 < x.m := by omega
    have hcp := (HKT.out _ HM.out.bl).at (i - 1) (by omega)
    have hkw : IntKind.i64.wrap ((i : Int) - 1) = ((i - 1 : Nat) : Int) := by rw [show ((i : Int) - 1) = ((i - 1 : Nat) : Int) from by omega]; exact IntWalk.i64_in _ (by omega)
    by_cases a3 : x.T (i - 1) < x.T i
    ·have HV := Lib.hid (vldL_tr hlt (trOk_up h0 a3))
     clear a1
     go_wp2_with fail
     refine wp_region_held_drew (S := (fun w' => w'.cell? ⟨w.heap.size, 1, none⟩ = some (.slice (some ⟨tb, tu, none⟩) x.m ct) ∧ w'.cell? ⟨tb, tu + i, none⟩ = some (.int .i64 (x.T i)) ∧ w'.cell? ⟨tb, tu + (i - 1), none⟩ = some (.int .i64 (x.T (i - 1))))) (by kernel_rfl) ?_ (fun hHeld => ?_)
     ·try dsimp only
      go_keep
     refine tkR 0 ?_
     refine tkR 1 ?_
     refine tkR 2 ?_
     refine tkR 3 ?_
     refine tkR 4 ?_
     refine tkR 5 ?_
     refine tkR 6 ?_
     refine r1R 7 (fun K hK => ?_)
     go_simp
     go_at_call 43
     go_must (refine Calls.mono (l6In_any _ _ _ _) ?_)
     rintro e w2 ⟨rfl, rfl⟩
     (try rw [HW2.out])
     rw [HI.out]
     refine oR hK ?_ (fun hHeld => ?_)
     ·try dsimp only
      go_keep
     clear hK K
     refine tkR 8 ?_
     refine tkR 9 ?_
     refine tkR 10 ?_
     refine tkR 11 ?_
     refine tkR 12 ?_
     refine tkR 13 ?_
     refine tkR 14 ?_
     refine tkR 15 ?_
     refine tkR 16 ?_
     refine tkR 17 ?_
     refine tkR 18 ?_
     refine tkR 19 ?_
     refine tkR 20 ?_
     refine tkR 21 ?_
     refine tkR 22 ?_
     refine tkR 23 ?_
     refine tkR 24 ?_
     refine tkR 25 ?_
     refine tkR 26 ?_
     refine wpAnyH_done (by kernel_rfl) ?_ _
     go_wp2_with fail
     go_ret
     exact ⟨retB HV.out.symm, HMd.out.bl⟩
    ·have HN := Lib.hid (all_next HA.out (trOk_of (by omega) (by omega) (.inr a3)))
     clear a1
     go_wp2_with fail
     refine wp_region_held_drew (S := (fun w' => w'.cell? ⟨w.heap.size, 1, none⟩ = some (.slice (some ⟨tb, tu, none⟩) x.m ct) ∧ w'.cell? ⟨tb, tu + i, none⟩ = some (.int .i64 (x.T i)) ∧ w'.cell? ⟨tb, tu + (i - 1), none⟩ = some (.int .i64 (x.T (i - 1))))) (by kernel_rfl) ?_ (fun hHeld => ?_)
     ·try dsimp only
      go_keep
     refine tkR 0 ?_
     refine tkR 1 ?_
     refine tkR 2 ?_
     refine tkR 3 ?_
     refine tkR 4 ?_
     refine tkR 5 ?_
     refine tkR 6 ?_
     refine r1R 7 (fun K hK => ?_)
     go_simp
     go_at_call 43
     go_must (refine Calls.mono (l6In_any _ _ _ _) ?_)
     rintro e w2 ⟨rfl, rfl⟩
     (try rw [HW2.out])
     rw [HI.out]
     refine oR hK ?_ (fun hHeld => ?_)
     ·try dsimp only
      go_keep
     clear hK K
     refine tkR 8 ?_
     refine tkR 9 ?_
     refine tkR 10 ?_
     refine tkR 11 ?_
     refine tkR 12 ?_
     refine tkR 13 ?_
     refine tkR 14 ?_
     refine tkR 15 ?_
     refine tkR 16 ?_
     refine tkR 17 ?_
     refine tkR 18 ?_
     refine tkR 19 ?_
     refine tkR 20 ?_
     refine tkR 21 ?_
     refine tkR 22 ?_
     refine tkR 23 ?_
     refine tkR 24 ?_
     refine tkR 25 ?_
     refine tkR 26 ?_
     refine wpAnyH_done (by kernel_rfl) ?_ _
     go_wp2_with fail
     go_roundw
     case rel => exact ⟨i + 1, by omega, by go_num, HN, HMd⟩
     case measure => simp [intOf]; omega
   ·obtain e : i = x.m := by omega
    subst e
    go_wp2_with fail
    go_loopw [5, 6, 7] (fun s _ _ wr => ∃ k : Nat, k ≤ x.n ∧ s = .int .i64 k ∧ Hid (∀ j, j < k → cnOk x j = true ∧ posB x.N x.I x.O j = true) ∧ Hid (VdM w wr (.slice (some ⟨bb, bo, none⟩) x.n cb) (.slice (some ⟨tb, tu, none⟩) x.m ct))) (fun s _ _ _ => x.n - (intOf s).toNat)
    case atStart => exact ⟨0, Nat.zero_le _, rfl, Lib.hid (fun j hj => by omega), HM⟩
    case round =>
     clear hrc HM
     obtain ⟨k, hk, rfl, HC, HM⟩ := hrel
     have hrc := HM.out.box.cell
     by_cases hkt : k < x.n
     ·go_wp2_with fail
      go_loop [6, 7] (fun s i => ∃ j : Nat, j ≤ x.m ∧ i = .int .i64 j ∧ s = .int .i64 (cntA x.T (2 * k + 1) j)) (fun _ i => x.m - (intOf i).toNat)
      case atStart => exact ⟨0, Nat.zero_le _, rfl, rfl⟩
      case round =>
       obtain ⟨j, hj, rfl, rfl⟩ := hrel
       have hle := cntA_le x.T (2 * k + 1) j
       by_cases hjt : j < x.m
       ·have hcj := (HKT.out _ HM.out.bl).at j hjt
        by_cases h1 : x.T j = 2 * k + 1
        ·have HE : Hid (cntA x.T (2 * k + 1) (j + 1) = cntA x.T (2 * k + 1) j + 1) := by show _ = _; simp [cntA, h1]
         have h2 : (x.T j == 2 * (k : Int) + 1) = true := by simp [h1]
         clear h1
         go_wp2_with fail
         go_round
         case rel => exact ⟨j + 1, by omega, by go_num, by rw [HE.out]; go_num⟩
         case measure => simp [intOf]; omega
        ·have HE : Hid (cntA x.T (2 * k + 1) (j + 1) = cntA x.T (2 * k + 1) j) := by show _ = _; simp [cntA, h1]
         have h2 : (x.T j == 2 * (k : Int) + 1) = false := by simp [h1]
         clear h1
         go_wp2_with fail
         go_round
         case rel => exact ⟨j + 1, by omega, by go_num, by rw [HE.out]⟩
         case measure => simp [intOf]; omega
       ·obtain e : j = x.m := by omega
        subst e
        obtain ⟨c0, c1, c2⟩ := (HKB.out _ HM.out.bl).at k hkt
        have HPO : Hid (Calls Tryz.prog 68 #[.agg #[.int .i64 (x.N k), .bool (x.I k), .bool (x.O k)]] wr fun e w' => e = .returned (.bool (posB x.N x.I x.O k)) ∧ Below wr.heap.size wr w') := specPossible_any _ _ _ _
        obtain ⟨c, hc⟩ : ∃ c, c = cntA x.T (2 * k + 1) x.m := ⟨_, rfl⟩
        rw [← hc] at hle
        cases hp : posB x.N x.I x.O k
        ·have HV := Lib.hid (vldL_po hkt hp)
         have HP := Lib.hid hp
         clear hp hc
         go_wp2_with fail
         refine HPO.out.mono ?_
         rintro e w2 ⟨rfl, hb⟩
         have HM2 := Lib.hid (HM.out.below hb rfl)
         clear hb
         rw [HP.out]
         go_wp2_with fail
         go_ret
         exact ⟨retB HV.out.symm, HM2.out.bl⟩
        have HP := Lib.hid hp
        have HCC := Lib.hid hc
        rw [← hc]
        clear hp hc
        have hpo := HPO.out
        rcases Nat.lt_or_ge 1 c with hc2 | hc2
        ·have HV := Lib.hid (vldL_cn hkt (show cnOk x k = false by
          unfold cnOk
          rw [← HCC.out]
          apply decide_eq_false
          split <;> omega))
         have g1 : (1 : Int) < (c : Int) := by omega
         have HPO2 := Lib.hid hpo
         clear hpo
         go_wp2_with fail
         refine HPO2.out.mono ?_
         rintro e w2 ⟨rfl, hb⟩
         have HM2 := Lib.hid (HM.out.below hb rfl)
         clear hrc c0 c1 c2
         obtain ⟨c0, c1, c2⟩ := (HKB.out _ HM2.out.bl).at k hkt
         have hrc := HM2.out.box.cell
         clear hb
         rw [HP.out]
         go_wp2_with fail
         go_ret
         exact ⟨retB HV.out.symm, HM2.out.bl⟩
        cases hI : x.I k
        ·rw [hI] at c1 hpo
         rcases Nat.eq_zero_or_pos c with h0 | h0
         ·subst h0
          have HN := Lib.hid (show cnOk x k = true by
           unfold cnOk
           rw [← HCC.out, hI]
           rfl)
          have HI := Lib.hid hI
          clear hI
          have HPO2 := Lib.hid hpo
          clear hpo
          go_wp2_with fail
          refine HPO2.out.mono ?_
          rintro e w2 ⟨rfl, hb⟩
          have HM2 := Lib.hid (HM.out.below hb rfl)
          clear hrc c0 c1 c2
          obtain ⟨c0, c1, c2⟩ := (HKB.out _ HM2.out.bl).at k hkt
          rw [HI.out] at c1
          have hrc := HM2.out.box.cell
          clear hb
          rw [HP.out]
          go_wp2_with fail
          go_roundw
          case rel => exact ⟨k + 1, by omega, by go_num, Lib.hid (fun j hj => by
             by_cases e : j = k
             ·rw [e]; exact ⟨HN.out, HP.out⟩
             ·exact HC.out j (by omega)), HM2⟩
          case measure => simp [intOf]; omega
         ·obtain rfl : c = 1 := by omega
          have HV := Lib.hid (vldL_cn hkt (show cnOk x k = false by
           unfold cnOk
           rw [← HCC.out, hI]
           rfl))
          have HI := Lib.hid hI
          clear hI
          have HPO2 := Lib.hid hpo
          clear hpo
          go_wp2_with fail
          refine HPO2.out.mono ?_
          rintro e w2 ⟨rfl, hb⟩
          have HM2 := Lib.hid (HM.out.below hb rfl)
          clear hrc c0 c1 c2
          obtain ⟨c0, c1, c2⟩ := (HKB.out _ HM2.out.bl).at k hkt
          rw [HI.out] at c1
          have hrc := HM2.out.box.cell
          clear hb
          rw [HP.out]
          go_wp2_with fail
          go_ret
          exact ⟨retB HV.out.symm, HM2.out.bl⟩
        ·rw [hI] at c1 hpo
         rcases Nat.eq_zero_or_pos c with h0 | h0
         ·subst h0
          have HV := Lib.hid (vldL_cn hkt (show cnOk x k = false by
           unfold cnOk
           rw [← HCC.out, hI]
           rfl))
          have HI := Lib.hid hI
          clear hI
          have HPO2 := Lib.hid hpo
          clear hpo
          go_wp2_with fail
          refine HPO2.out.mono ?_
          rintro e w2 ⟨rfl, hb⟩
          have HM2 := Lib.hid (HM.out.below hb rfl)
          clear hrc c0 c1 c2
          obtain ⟨c0, c1, c2⟩ := (HKB.out _ HM2.out.bl).at k hkt
          rw [HI.out] at c1
          have hrc := HM2.out.box.cell
          clear hb
          rw [HP.out]
          go_wp2_with fail
          go_ret
          exact ⟨retB HV.out.symm, HM2.out.bl⟩
         ·obtain rfl : c = 1 := by omega
          have HN := Lib.hid (show cnOk x k = true by
           unfold cnOk
           rw [← HCC.out, hI]
           rfl)
          have HI := Lib.hid hI
          clear hI
          have HPO2 := Lib.hid hpo
          clear hpo
          go_wp2_with fail
          refine HPO2.out.mono ?_
          rintro e w2 ⟨rfl, hb⟩
          have HM2 := Lib.hid (HM.out.below hb rfl)
          clear hrc c0 c1 c2
          obtain ⟨c0, c1, c2⟩ := (HKB.out _ HM2.out.bl).at k hkt
          rw [HI.out] at c1
          have hrc := HM2.out.box.cell
          clear hb
          rw [HP.out]
          go_wp2_with fail
          go_roundw
          case rel => exact ⟨k + 1, by omega, by go_num, Lib.hid (fun j hj => by
             by_cases e : j = k
             ·rw [e]; exact ⟨HN.out, HP.out⟩
             ·exact HC.out j (by omega)), HM2⟩
          case measure => simp [intOf]; omega
     ·obtain e : k = x.n := by omega
      subst e
      have HV := Lib.hid (vldL_of HS.out h5 (fun k hk => (HC.out k hk).2) HA.out (fun k hk => (HC.out k hk).1))
      go_wp2_with fail
      go_ret
      exact ⟨retB HV.out.symm, HM.out.bl⟩
def CpC (w : World) (z : Nat) (x : Ln) (s8 : Value) (wx : World) : Prop :=
 ∃ b8 g1 c1 g2 c2, s8 = .pointer (some ⟨b8, 0, none⟩) ∧ Bx wx b8 31 #[.slice (some ⟨g1, 0, none⟩) x.n c1, .slice (some ⟨g2, 0, none⟩) x.m c2] ∧ Own wx g1 c1 x.n 3 76 (bkF x.N x.I x.O) ∧ Own wx g2 c2 x.m 1 3 (fun i => .int .i64 (x.T i)) ∧
   z ≤ b8 ∧ z ≤ g1 ∧ z ≤ g2 ∧ b8 ≠ g1 ∧ b8 ≠ g2 ∧ g1 ≠ g2 ∧ Below z w wx
theorem CpC.bl {wb wx : World} {z : Nat} {x : Ln} {s : Value} (h : CpC wb z x s wx) : Below z wb wx := by
 obtain ⟨_, _, _, _, _, _, _, _, _, _, _, _, _, _, _, hb⟩ := h
 exact hb
theorem cpS {wc w' : World} {A : Nat} {v1 v2 : Value} (h0 : wc.cell? ⟨A, 0, none⟩ = some v1) (h1 : wc.cell? ⟨A, 1, none⟩ = some v2) (hA : A < wc.heap.size) (hb : Below wc.heap.size wc w') :
    w'.cell? ⟨A, 0, none⟩ = some v1 ∧ w'.cell? ⟨A, 1, none⟩ = some v2 :=
  ⟨by rw [hb.cell (p := ⟨A, 0, none⟩) hA]; exact h0, by rw [hb.cell (p := ⟨A, 1, none⟩) hA]; exact h1⟩
theorem bx2 {w : World} {b : Nat} {t : TypeId} {v0 v1 : Value} (h : Bx w b t #[v0, v1]) (u0 u1 : Value) : Bx ((w.setCell ⟨b, 0, none⟩ u0).setCell ⟨b, 1, none⟩ u1) b t #[u0, u1] := by
 have := (h.set 0 u0).set 1 u1
 simpa using this
structure CpF (wb wr : World) (x : Ln) (s1 s2 : Option (Nat × Nat × Nat)) (s3 : Option Nat) : Prop where
  r1 : ∀ g c n, s1 = some (g, c, n) → Own wr g c n 3 76 (bkF x.N x.I x.O) ∧ wb.heap.size ≤ g
  r2 : ∀ g c n, s2 = some (g, c, n) → Own wr g c n 1 3 (fun i => .int .i64 (x.T i)) ∧ wb.heap.size ≤ g
  r3 : ∀ b, s3 = some b → Bx wr b 31 #[.slice none 0 0, .slice none 0 0] ∧ wb.heap.size ≤ b
  d12 : ∀ g c n g' c' n', s1 = some (g, c, n) → s2 = some (g', c', n') → g ≠ g'
  d13 : ∀ g c n b, s1 = some (g, c, n) → s3 = some b → g ≠ b
  d23 : ∀ g c n b, s2 = some (g, c, n) → s3 = some b → g ≠ b
  bl : Below wb.heap.size wb wr
theorem CpF.start (wb : World) (x : Ln) : CpF wb wb.drew x none none none :=
 ⟨fun _ _ _ h => (by cases h), fun _ _ _ h => (by cases h), fun _ h => (by cases h), fun _ _ _ _ _ _ h => (by cases h), fun _ _ _ _ h => (by cases h), fun _ _ _ _ h => (by cases h), (Below.refl _ _).drew⟩
theorem CpF.makeB {wb wr : World} {x : Ln} {s2 : Option (Nat × Nat × Nat)} {s3 : Option Nat} (h : CpF wb wr x none s2 s3) : CpF wb (wr.alloc (.cells #[] 76)) x (some (wr.heap.size, 0, 0)) s2 s3 := by
 have hz := h.bl.size
 refine ⟨fun g c n e => ?_, fun g c n e => ⟨(h.r2 g c n e).1.alloc _, (h.r2 g c n e).2⟩, fun b e => ⟨(h.r3 b e).1.alloc _, (h.r3 b e).2⟩, fun g c n g' c' n' e e' => ?_, fun g c n b e e' => ?_, h.d23, h.bl.alloc hz _⟩
 ·cases e; exact ⟨own_empty _ _ _ _, hz⟩
 ·cases e; have := (h.r2 _ _ _ e').1.lt; omega
 ·cases e; have := (h.r3 _ e').1.lt; omega
theorem CpF.makeI {wb wr : World} {x : Ln} {s1 : Option (Nat × Nat × Nat)} {s3 : Option Nat} (h : CpF wb wr x s1 none s3) : CpF wb (wr.alloc (.cells #[] 3)) x s1 (some (wr.heap.size, 0, 0)) s3 := by
 have hz := h.bl.size
 refine ⟨fun g c n e => ⟨(h.r1 g c n e).1.alloc _, (h.r1 g c n e).2⟩, fun g c n e => ?_, fun b e => ⟨(h.r3 b e).1.alloc _, (h.r3 b e).2⟩, fun g c n g' c' n' e e' => ?_, h.d13, fun g c n b e e' => ?_, h.bl.alloc hz _⟩
 ·cases e; exact ⟨own_empty _ _ _ _, hz⟩
 ·cases e'; have := (h.r1 _ _ _ e).1.lt; omega
 ·cases e; have := (h.r3 _ e').1.lt; omega
theorem CpF.makeL {wb wr : World} {x : Ln} {s1 s2 : Option (Nat × Nat × Nat)} (h : CpF wb wr x s1 s2 none) : CpF wb (wr.alloc (.cells #[.slice none 0 0, .slice none 0 0] 31)) x s1 s2 (some wr.heap.size) := by
 have hz := h.bl.size
 refine ⟨fun g c n e => ⟨(h.r1 g c n e).1.alloc _, (h.r1 g c n e).2⟩, fun g c n e => ⟨(h.r2 g c n e).1.alloc _, (h.r2 g c n e).2⟩, fun b e => ?_, h.d12, fun g c n b e e' => ?_, fun g c n b e e' => ?_, h.bl.alloc hz _⟩
 ·cases e; exact ⟨Bx.new _ _ _, hz⟩
 ·cases e'; have := (h.r1 _ _ _ e).1.lt; omega
 ·cases e'; have := (h.r2 _ _ _ e).1.lt; omega
theorem CpF.appB {wb wr wa : World} {x : Ln} {s2 : Option (Nat × Nat × Nat)} {s3 : Option Nat} {g g1 c1 : Nat} (h : CpF wb wr x (some (g, 0, 0)) s2 s3) (ho : Own wa g1 c1 x.n 3 76 (bkF x.N x.I x.O)) (hg : wr.grownBy wa (some g)) (hd : (g1 = g ∧ c1 = 0) ∨ wr.heap.size ≤ g1) :
    CpF wb wa x (some (g1, c1, x.n)) s2 s3 := by
  have hz := h.bl.size
  have hg0 := (h.r1 _ _ _ rfl).2
  refine ⟨fun g c n e => ?_, fun g' c n e => ⟨(h.r2 g' c n e).1.picked hg (fun q => h.d12 _ _ _ _ _ _ rfl e q.symm), (h.r2 g' c n e).2⟩, fun b e => ⟨(h.r3 b e).1.kept hg (fun q => h.d13 _ _ _ _ rfl e q.symm), (h.r3 b e).2⟩, fun g c n g' c' n' e e' => ?_, fun g c n b e e' => ?_, h.d23, h.bl.trans (below_of_grown hg hg0 hz)⟩
  ·cases e; exact ⟨ho, by omega⟩
  ·cases e
   have h1 := h.d12 _ _ _ _ _ _ rfl e'
   have h2 := (h.r2 _ _ _ e').1.lt
   omega
  ·cases e
   have h1 := h.d13 _ _ _ _ rfl e'
   have h2 := (h.r3 _ e').1.lt
   omega
theorem CpF.appI {wb wr wa : World} {x : Ln} {s1 : Option (Nat × Nat × Nat)} {s3 : Option Nat} {g g2 c2 : Nat} (h : CpF wb wr x s1 (some (g, 0, 0)) s3) (ho : Own wa g2 c2 x.m 1 3 (fun i => .int .i64 (x.T i))) (hg : wr.grownBy wa (some g)) (hd : (g2 = g ∧ c2 = 0) ∨ wr.heap.size ≤ g2) :
    CpF wb wa x s1 (some (g2, c2, x.m)) s3 := by
  have hz := h.bl.size
  have hg0 := (h.r2 _ _ _ rfl).2
  refine ⟨fun g' c n e => ⟨(h.r1 g' c n e).1.picked hg (fun q => h.d12 _ _ _ _ _ _ e rfl q), (h.r1 g' c n e).2⟩, fun g c n e => ?_, fun b e => ⟨(h.r3 b e).1.kept hg (fun q => h.d23 _ _ _ _ rfl e q.symm), (h.r3 b e).2⟩, fun g' c n g'' c' n' e e' => ?_, h.d13, fun g' c n b e e' => ?_, h.bl.trans (below_of_grown hg hg0 hz)⟩
  ·cases e; exact ⟨ho, by omega⟩
  ·cases e'
   have h1 := h.d12 _ _ _ _ _ _ e rfl
   have h2 := (h.r1 _ _ _ e).1.lt
   omega
  ·cases e
   have h1 := h.d23 _ _ _ _ rfl e'
   have h2 := (h.r3 _ e').1.lt
   omega
theorem CpF.ownB {wb wr : World} {x : Ln} {s2 : Option (Nat × Nat × Nat)} {s3 : Option Nat} {g c n : Nat} (h : CpF wb wr x (some (g, c, n)) s2 s3) : Own wr g c n 3 76 (bkF x.N x.I x.O) := (h.r1 _ _ _ rfl).1
theorem CpF.ownI {wb wr : World} {x : Ln} {s1 : Option (Nat × Nat × Nat)} {s3 : Option Nat} {g c n : Nat} (h : CpF wb wr x s1 (some (g, c, n)) s3) : Own wr g c n 1 3 (fun i => .int .i64 (x.T i)) := (h.r2 _ _ _ rfl).1
theorem CpF.bx {wb wr : World} {x : Ln} {s1 s2 : Option (Nat × Nat × Nat)} {b : Nat} (h : CpF wb wr x s1 s2 (some b)) : Bx wr b 31 #[.slice none 0 0, .slice none 0 0] := (h.r3 _ rfl).1
theorem CpF.bxl {wb wr : World} {x : Ln} {s1 s2 : Option (Nat × Nat × Nat)} {b : Nat} (h : CpF wb wr x s1 s2 (some b)) : wb.heap.size ≤ b := (h.r3 _ rfl).2
theorem CpF.doneS {wb wr : World} {x : Ln} {g1 c1 g2 c2 b : Nat} (h : CpF wb wr x (some (g1, c1, x.n)) (some (g2, c2, x.m)) (some b)) :
    CpC wb wb.heap.size x (.pointer (some ⟨b, 0, none⟩)) ((wr.setCell ⟨b, 0, none⟩ (.slice (some ⟨g1, 0, none⟩) x.n c1)).setCell ⟨b, 1, none⟩ (.slice (some ⟨g2, 0, none⟩) x.m c2)) := by
  have h1 := h.d13 _ _ _ _ rfl rfl
  have h2 := h.d23 _ _ _ _ rfl rfl
  exact ⟨b, g1, c1, g2, c2, rfl, bx2 h.bx _ _, (h.ownB.setOther (by dsimp only; omega) _).setOther (by dsimp only; omega) _, (h.ownI.setOther (by dsimp only; omega) _).setOther (by dsimp only; omega) _, h.bxl, (h.r1 _ _ _ rfl).2, (h.r2 _ _ _ rfl).2, fun e => h1 e.symm, fun e => h2 e.symm, h.d12 _ _ _ _ _ _ rfl rfl,
    (h.bl.setCell (p := ⟨b, 0, none⟩) h.bxl _).setCell (p := ⟨b, 1, none⟩) h.bxl _⟩
theorem CpF.doneL {wb wr : World} {x : Ln} {g1 c1 g2 c2 : Nat} (h : CpF wb wr x (some (g1, c1, x.n)) (some (g2, c2, x.m)) none) :
    CpC wb wb.heap.size x (.pointer (some ⟨wr.heap.size, 0, none⟩)) (wr.alloc (.cells #[.slice (some ⟨g1, 0, none⟩) x.n c1, .slice (some ⟨g2, 0, none⟩) x.m c2] 31)) := by
  have h1 := h.ownB.lt
  have h2 := h.ownI.lt
  exact ⟨wr.heap.size, g1, c1, g2, c2, rfl, Bx.new _ _ _, h.ownB.alloc _, h.ownI.alloc _, h.bl.size, (h.r1 _ _ _ rfl).2, (h.r2 _ _ _ rfl).2, by omega, by omega, h.d12 _ _ _ _ _ _ rfl rfl, h.bl.alloc h.bl.size _⟩
end Go.Proofs.YtlkdmpfifpkpaaaGreatDoor

