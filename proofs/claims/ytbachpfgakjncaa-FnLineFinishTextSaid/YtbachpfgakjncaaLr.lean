/-
  The walk of the program's LineRun.
-/
import Derived.Test.YtbachpfgakjncaaMo
namespace Go.Proofs.Ytbachpfgakjncaa
open Go.RowKit

/-- a row of moves -/
def MvsC (w : World) (b off q : Nat) (M : Nat → Int) (L : Nat → ByteArray) : Prop :=
  ∀ k, k < q → w.cell? ⟨b, off + k * 2, none⟩ = some (.int .i64 (M k)) ∧ w.cell? ⟨b, off + k * 2 + 1, none⟩ = some (.string (L k))
theorem MvsC.at {w : World} {b off q : Nat} {M : Nat → Int} {L : Nat → ByteArray} (h : MvsC w b off q M L) (k : Nat) (hk : k < q) :
    w.cell? ⟨b, off + k * 2, none⟩ = some (.int .i64 (M k)) ∧ w.cell? ⟨b, off + k * 2 + 1, none⟩ = some (.string (L k)) := h k hk
theorem MvsC.keep {w w' : World} {b off q : Nat} {M : Nat → Int} {L : Nat → ByteArray} (h : MvsC w b off q M L) (hb : Below w.heap.size w w') : MvsC w' b off q M L := fun k hk => by
  obtain ⟨h1, h2⟩ := h k hk
  have hlt : b < w.heap.size := World.block_lt_of_cell? w ⟨b, off + k * 2, none⟩ h1
  exact ⟨by rw [hb.cell (p := ⟨b, off + k * 2, none⟩) hlt]; exact h1, by rw [hb.cell (p := ⟨b, off + k * 2 + 1, none⟩) hlt]; exact h2⟩
/-- the empty line -/
def nilLn : Value := .agg #[.slice none 0 0, .slice none 0 0]
/-- a line handed back, or none -/
def LrR (o : Option Ln) (w : World) (e : Ending) (w' : World) : Prop :=
  Below w.heap.size w w' ∧ ((o = none ∧ e = .returned (.tuple #[nilLn, .bool false])) ∨ (∃ y v, o = some y ∧ e = .returned (.tuple #[v, .bool true]) ∧ LnO w.heap.size w' v y))
/-- the program's run of moves -/
def rnO (x : Ln) (M : Nat → Int) (L : Nat → ByteArray) (q : Nat) : Option Ln := if vldL x = true then runO x M L q else none
theorem RwN.lt {B : Nat} {w : World} {s : Value} {x : Ln} (h : RwN B w s x) : ∃ r gb cb gt ct, s = .pointer (some ⟨r, 0, none⟩) ∧ RwC w r gb cb gt ct x ∧ B ≤ r ∧ B ≤ gb ∧ B ≤ gt := h
/-- the boxes of LineRun -/
structure LrM (w wr : World) (r gb cb gt ct : Nat) (y : Ln) : Prop where
  rw : RwC wr r gb cb gt ct y
  res : Bx wr (w.heap.size + 1) 26 #[.slice none 0 0, .slice none 0 0]
  bl : Below w.heap.size w wr
  h1 : w.heap.size + 2 ≤ r
  h2 : w.heap.size + 2 ≤ gb
  h3 : w.heap.size + 2 ≤ gt
theorem LrM.below {w wr w' : World} {r gb cb gt ct D : Nat} {y : Ln} (h : LrM w wr r gb cb gt ct y) (hb : Below D wr w') (hD : D = wr.heap.size) : LrM w w' r gb cb gt ct y := by
  subst hD
  exact ⟨h.rw.below hb (Nat.le_refl _), h.res.below hb h.res.lt, h.bl.trans (hb.mono h.bl.size), h.h1, h.h2, h.h3⟩
theorem LrM.step {w wr w' : World} {r gb cb gt ct : Nat} {y z : Ln} (h : LrM w wr r gb cb gt ct y) (hr : RwC w' r gb cb gt ct z) (hb : Below (w.heap.size + 2) wr w') : LrM w w' r gb cb gt ct z :=
  ⟨hr, h.res.below hb (by omega), h.bl.trans (hb.mono (by omega)), h.h1, h.h2, h.h3⟩
theorem LnO.setOther {B : Nat} {w : World} {v : Value} {x : Ln} (h : LnO B w v x) {b o : Nat} (hb : b < B) (u : Value) : LnO B (w.setCell ⟨b, o, none⟩ u) v x := by
  obtain ⟨g1, c1, g2, c2, e, h1, h2, h3, h4, h5⟩ := h
  exact ⟨g1, c1, g2, c2, e, h1.setOther (by dsimp only; omega) _, h2.setOther (by dsimp only; omega) _, h3, h4, h5⟩
set_option linter.unusedSimpArgs false in
set_option maxHeartbeats 2000000 in
theorem lineRun_any (bb bo cb tb tu ct mb mo q mc : Nat) (x : Ln) (M : Nat → Int) (L : Nat → ByteArray) (w : World) (hn : x.n ≤ 1000000000000) (hm : x.m ≤ 1000000000000) (hq : q ≤ 1000000000000) (hbk : BkC w bb bo x.n x.N x.I x.O) (hic : IC w tb tu x.m x.T) (hmv : MvsC w mb mo q M L) :
    Calls Try.prog 16 #[.agg #[.slice (some ⟨bb, bo, none⟩) x.n cb, .slice (some ⟨tb, tu, none⟩) x.m ct], .slice (some ⟨mb, mo, none⟩) q mc] w (LrR (rnO x M L q) w) := by
  have HBB : Hid (∀ a b, Below w.heap.size w ((w.alloc a).alloc b)) := fun a b => (below_all _ _).alloc (by simp) _
  have HMV : Hid (∀ w', Below w.heap.size w w' → MvsC w' mb mo q M L) := fun w' hb => hmv.keep hb
  have HRW : Hid (∀ w', Below w.heap.size w w' → Calls Try.prog 46 #[.agg #[.slice (some ⟨bb, bo, none⟩) x.n cb, .slice (some ⟨tb, tu, none⟩) x.m ct]] w' (RwO x w')) := fun w' hb => by
    refine railwayOf_any bb bo cb tb tu ct x w' hn hm ?_ (hic.keep hb)
    intro k hk
    obtain ⟨h0, h1, h2⟩ := hbk k hk
    have hlt : bb < w.heap.size := World.block_lt_of_cell? w ⟨bb, bo + k * 3, none⟩ h0
    exact ⟨by rw [hb.cell (p := ⟨bb, bo + k * 3, none⟩) hlt]; exact h0, by rw [hb.cell (p := ⟨bb, bo + k * 3 + 1, none⟩) hlt]; exact h1, by rw [hb.cell (p := ⟨bb, bo + k * 3 + 2, none⟩) hlt]; exact h2⟩
  clear hbk hic hmv
  go_enter Try.func16, Try.ntmps16
  go_wp2_with fail
  refine (HRW.out _ (HBB.out _ _)).mono ?_
  rintro e w1 ⟨hb1, h1⟩
  have HX1 : Hid (Bx w1 (w.heap.size + 1) 26 #[.slice none 0 0, .slice none 0 0]) := (Bx.newAt (by simp)).below hb1 (by simp)
  have HB1 : Hid (Below w.heap.size w w1) := (HBB.out _ _).trans (hb1.mono (by simp; omega))
  have hrc := HX1.out.cell
  have hrf := HX1.out.free
  rcases h1 with ⟨hv, s, rfl, hs⟩ | ⟨hv, rfl⟩
  · obtain ⟨r, gb, cb', gt, ct', rfl, hrw, k1, k2, k3⟩ := hs
    simp only [World.size_alloc] at k1 k2 k3
    have HL : Hid (LrM w w1 r gb cb' gt ct' x) := ⟨hrw, HX1.out, HB1.out, by omega, by omega, by omega⟩
    have HV : Hid (rnO x M L q = runO x M L q) := if_pos hv
    clear hb1 hv hrw HX1 HB1 hrc hrf k1 k2 k3
    go_wp2_with fail
    go_loopw [9, 20] (fun _ i wr => ∃ k : Nat, ∃ y : Ln, k ≤ q ∧ i = .int .i64 k ∧ Hid (runO x M L k = some y) ∧ Hid (LrM w wr r gb cb' gt ct' y)) (fun _ i _ => q - (intOf i).toNat)
    case atStart => exact ⟨0, x, Nat.zero_le _, rfl, Lib.hid rfl, HL⟩
    case round =>
      obtain ⟨k, y, hk, rfl, HY, HM⟩ := hrel
      have HNM := Lib.hid (runO_nm HY.out)
      by_cases hlt : k < q
      · obtain ⟨c0, c1⟩ := (HMV.out _ HM.out.bl).at k hlt
        have HMa : Hid (∀ a, LrM w (wr.alloc a) r gb cb' gt ct' y) := fun a => HM.out.below ((Below.refl wr.heap.size wr).alloc (Nat.le_refl _) a) rfl
        have HMO : Hid (∀ a, Calls Try.prog 51 #[.pointer (some ⟨r, 0, none⟩), .agg #[.int .i64 (M k), .string (L k)]] (wr.alloc a) (MvR (w.heap.size + 2) r gb cb' gt ct' y (M k) (L k) (wr.alloc a))) := fun a => by
          obtain ⟨e1, e2⟩ := HNM.out
          have hz := (HMa.out a).res.lt
          exact move_any (w.heap.size + 2) r gb cb' gt ct' y (M k) (L k) _ (by omega) (by omega) (HMa.out a).rw ⟨HM.out.h2, HM.out.h3, by omega⟩
        cases ho : mvOk y (M k) (L k)
        · have HO := Lib.hid ho
          have HN : Hid (rnO x M L q = none) := by
            have h1 : runO x M L (k + 1) = none := by simp only [runO, HY.out, Option.bind_some, stepO, ho]; rfl
            rw [HV.out]; exact runO_none h1 q (by omega)
          clear ho
          go_wp2_with fail
          refine (HMO.out _).mono ?_
          rintro e w2 ⟨rfl, hr2, hb2⟩
          rw [HO.out]
          rw [HO.out] at hr2
          have HM2 := Lib.hid ((HMa.out _).step hr2 hb2)
          have hxc := HM2.out.res.cell
          have hxf := HM2.out.res.free
          clear hr2 hb2
          go_wp2_with fail
          exact bodyPost_ret (v := .tuple #[nilLn, .bool false]) (by simp [results, Try.results16, go_sem, hxc, nilLn]) rfl ⟨(HM2.out.bl.setCell (by dsimp only; omega) _).setCell (by dsimp only; omega) _, .inl ⟨HN.out, rfl⟩⟩
        · have HO := Lib.hid ho
          have HN : Hid (runO x M L (k + 1) = some (mvTo y (M k) (L k))) := by
            show _ = _
            simp only [runO, HY.out, Option.bind_some, stepO, ho]; rfl
          clear ho
          go_wp2_with fail
          refine (HMO.out _).mono ?_
          rintro e w2 ⟨rfl, hr2, hb2⟩
          rw [HO.out]
          rw [HO.out, if_pos rfl] at hr2
          have HM2 := Lib.hid ((HMa.out _).step hr2 hb2)
          clear hr2 hb2
          go_wp2_with fail
          go_roundw
          case rel => exact ⟨k + 1, _, by omega, by go_num, HN, HM2⟩
          case measure => simp [intOf]; omega
      · obtain e : k = q := by omega
        subst e
        have hxc := HM.out.res.cell
        have hxf := HM.out.res.free
        have HLI : Hid (Calls Try.prog 52 #[.pointer (some ⟨r, 0, none⟩)] wr fun e w' => ∃ v, e = .returned v ∧ LnO wr.heap.size w' v y ∧ Below wr.heap.size wr w') := by
          obtain ⟨e1, e2⟩ := HNM.out
          exact line_any r gb cb' gt ct' y _ (by omega) (by omega) HM.out.rw
        go_wp2_with fail
        refine HLI.out.mono ?_
        rintro e w2 ⟨v, rfl, hl, hb⟩
        have HL2 := Lib.hid hl
        have HM2 := Lib.hid (HM.out.below hb rfl)
        obtain ⟨g1, c1, g2, c2, rfl, _⟩ := hl
        clear hb hxc hxf
        have hxc := HM2.out.res.cell
        have hxf := HM2.out.res.free
        have hz2 := HM.out.res.lt
        go_wp2_with fail
        refine bodyPost_ret (v := .tuple #[.agg #[.slice (some ⟨g1, 0, none⟩) y.n c1, .slice (some ⟨g2, 0, none⟩) y.m c2], .bool true]) (by simp [results, Try.results16, go_sem, hxc]) rfl ⟨(HM2.out.bl.setCell (by dsimp only; omega) _).setCell (by dsimp only; omega) _, .inr ⟨y, _, by rw [HV.out]; exact HY.out, rfl, (((HL2.out.mono (D := w.heap.size + 2) (by omega)).setOther (by omega) _).setOther (by omega) _).mono (by omega)⟩⟩
  · have HV : Hid (rnO x M L q = none) := by show _ = _; unfold rnO; rw [hv]; rfl
    clear hv hb1
    go_wp2_with fail
    exact bodyPost_ret (v := .tuple #[nilLn, .bool false]) (by simp [results, Try.results16, go_sem, hrc, nilLn]) rfl ⟨(HB1.out.setCell (by dsimp only; omega) _).setCell (by dsimp only; omega) _, .inl ⟨HV.out, rfl⟩⟩
end Go.Proofs.Ytbachpfgakjncaa
