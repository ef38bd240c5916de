/-
  Parts of the proof of fnExecuteFinish_proved: Lr Sa Sc Sd Se Ea Mb Mc Rq Eb Ee Ef Sf Lm Lv Lw Lx. No condition.
-/
import Derived.Test.YtlkdmpfifpkpaaaGreatDoorChecked
import Derived.Shelf.Strings.Builder1
import Derived.Shelf.Strings.Builder2
import Derived.Shelf.Strings.OnBuilder
import Derived.Shelf.Strings.BuilderF
import Derived.Shelf.Strconv.Itoa0
import Derived.Shelf.Strconv.Itoa1
import Derived.Shelf.LaysM
import Derived.Shelf.Strconv.Itoa2
import Derived.Shelf.Strconv.Itoa3
import Derived.Shelf.Strings.Search1
import Derived.Shelf.Strings.Search2
import Derived.Shelf.Strings.Search3
import Derived.Shelf.Strings.Count
import Derived.Shelf.Strings.Shaped
import Derived.Shelf.Strings.Split
import Derived.Shelf.Strings.SplitShaped
import Derived.Shelf.Unicode.DecodeSlow
import Derived.Test.YtlkdmpfifpkpaaaGreatDoorProg
import Derived.Deep.DeepCutAuto
import Derived.WalkKit
import Derived.WalkSpells
import Derived.WalkLawsBesides
import Derived.Lib.Hide
import Derived.BigQuiet
import Derived.Deep.QuietTactic
import Derived.Deep.RegionHeld3
import Derived.Deep.DeepFit
import Derived.Lib.Strings
import Derived.Lib.Builder
import Derived.Lib.AppendStr
import Derived.Lib.UnsafeStr
import Derived.Lib.Slices
import Derived.Laws.Externs
import Derived.Laws.BitsAllLaws
import Derived.Lib.IndexLaws
import Derived.Deep.RegionWith
import Derived.Lib.SlBytesRow
import Derived.Maps.AppendAt
import Derived.RangeFuncNested
import Derived.RangeFuncBound
import Derived.RangeFuncCalls
import Derived.RangeFuncLeaves
import Derived.RangeFuncBox
import Derived.Shelf.Abstract
import Derived.OwnWalkIn
import Derived.TacticsInMore
import Derived.LoopNIn
import Derived.LoopIn
import Derived.OrdersIn
import Derived.OrdersHeld
import Derived.Deep.RegionHeld
import Derived.Test.YtlkdmpfifpkpaaaGreatDoorR01
import Derived.Test.YtlkdmpfifpkpaaaGreatDoorR02
import Derived.Test.YtlkdmpfifpkpaaaGreatDoorR03
import Derived.Test.YtlkdmpfifpkpaaaGreatDoorR04
import Derived.Test.YtlkdmpfifpkpaaaGreatDoorR05
namespace Go.Proofs.YtlkdmpfifpkpaaaGreatDoor
open Go.RowKit

/-- the empty line -/
def nilLn : Value := .agg #[.slice none 0 0, .slice none 0 0]
/-- a line handed back, or none -/
def LrR (o : Option Ln) (w : World) (e : Ending) (w' : World) : Prop :=
  Below w.heap.size w w' ∧ ((o = none ∧ e = .returned (.tuple #[nilLn, .bool false])) ∨ (∃ y v, o = some y ∧ e = .returned (.tuple #[v, .bool true]) ∧ LnO w.heap.size w' v y))
/-- the program's run of moves -/
def rnO (x : Ln) (M : Nat → Int) (L : Nat → ByteArray) (q : Nat) : Option Ln := if vldL x = true then runO x M L q else none
theorem RwN.lt {B : Nat} {w : World} {s : Value} {x : Ln} (h : RwN B w s x) : ∃ r gb cb gt ct, s = .pointer (some ⟨r, 0, none⟩) ∧ RwC w r gb cb gt ct x ∧ B ≤ r ∧ B ≤ gb ∧ B ≤ gt := h
/-- the boxes of LineRun -/
structure LrM (w wr : World) (r gb cb gt ct : Nat) (y : Ln) : Prop where
  rw : RwC wr r gb cb gt ct y
  res : Bx wr (w.heap.size + 1) 31 #[.slice none 0 0, .slice none 0 0]
  bl : Below w.heap.size w wr
  h1 : w.heap.size + 2 ≤ r
  h2 : w.heap.size + 2 ≤ gb
  h3 : w.heap.size + 2 ≤ gt
theorem LrM.below {w wr w' : World} {r gb cb gt ct D : Nat} {y : Ln} (h : LrM w wr r gb cb gt ct y) (hb : Below D wr w') (hD : D = wr.heap.size) : LrM w w' r gb cb gt ct y := by
  subst hD
  exact ⟨h.rw.below hb (Nat.le_refl _), h.res.below hb h.res.lt, h.bl.trans (hb.mono h.bl.size), h.h1, h.h2, h.h3⟩
theorem LrM.step {w wr w' : World} {r gb cb gt ct : Nat} {y z : Ln} (h : LrM w wr r gb cb gt ct y) (hr : RwC w' r gb cb gt ct z) (hb : Below (w.heap.size + 2) wr w') : LrM w w' r gb cb gt ct z :=
  ⟨hr, h.res.below hb (by omega), h.bl.trans (hb.mono (by omega)), h.h1, h.h2, h.h3⟩
theorem LnO.setOther {B : Nat} {w : World} {v : Value} {x : Ln} (h : LnO B w v x) {b o : Nat} (hb : b < B) (u : Value) : LnO B (w.setCell ⟨b, o, none⟩ u) v x := by
  obtain ⟨g1, c1, g2, c2, e, h1, h2, h3, h4, h5⟩ := h
  exact ⟨g1, c1, g2, c2, e, h1.setOther (by dsimp only; omega) _, h2.setOther (by dsimp only; omega) _, h3, h4, h5⟩
set_option linter.unusedSimpArgs false in
set_option maxHeartbeats 2000000 in
theorem lineRun_any (bb bo cb tb tu ct mb mo q mc : Nat) (x : Ln) (M : Nat → Int) (L : Nat → ByteArray) (w : World) (hn : x.n ≤ 1000000000000) (hm : x.m ≤ 1000000000000) (hq : q ≤ 1000000000000) (hbk : BkC w bb bo x.n x.N x.I x.O) (hic : IC w tb tu x.m x.T) (hmv : MvsC w mb mo q M L) :
    Calls Tryz.prog 124 #[.agg #[.slice (some ⟨bb, bo, none⟩) x.n cb, .slice (some ⟨tb, tu, none⟩) x.m ct], .slice (some ⟨mb, mo, none⟩) q mc] w (LrR (rnO x M L q) w) := by
  have HBB : Hid (∀ a b, Below w.heap.size w ((w.alloc a).alloc b)) := fun a b => (below_all _ _).alloc (by simp) _
  have HMV : Hid (∀ w', Below w.heap.size w w' → MvsC w' mb mo q M L) := fun w' hb => hmv.keep hb
  have HRW : Hid (∀ w', Below w.heap.size w w' → Calls Tryz.prog 141 #[.agg #[.slice (some ⟨bb, bo, none⟩) x.n cb, .slice (some ⟨tb, tu, none⟩) x.m ct]] w' (RwO x w')) := fun w' hb => by
    refine railwayOf_any bb bo cb tb tu ct x w' hn hm ?_ (hic.keep hb)
    intro k hk
    obtain ⟨h0, h1, h2⟩ := hbk k hk
    have hlt : bb < w.heap.size := World.block_lt_of_cell? w ⟨bb, bo + k * 3, none⟩ h0
    exact ⟨by rw [hb.cell (p := ⟨bb, bo + k * 3, none⟩) hlt]; exact h0, by rw [hb.cell (p := ⟨bb, bo + k * 3 + 1, none⟩) hlt]; exact h1, by rw [hb.cell (p := ⟨bb, bo + k * 3 + 2, none⟩) hlt]; exact h2⟩
  clear hbk hic hmv
  go_enter Tryz.func124, Tryz.ntmps124
  go_wp2_with fail
  refine (HRW.out _ (HBB.out _ _)).mono ?_
  rintro e w1 ⟨hb1, h1⟩
  have HX1 : Hid (Bx w1 (w.heap.size + 1) 31 #[.slice none 0 0, .slice none 0 0]) := (Bx.newAt (by simp)).below hb1 (by simp)
  have HB1 : Hid (Below w.heap.size w w1) := (HBB.out _ _).trans (hb1.mono (by simp; omega))
  have hrc := HX1.out.cell
  have hrf := HX1.out.free
  rcases h1 with ⟨hv, s, rfl, hs⟩ | ⟨hv, rfl⟩
  · obtain ⟨r, gb, cb', gt, ct', rfl, hrw, k1, k2, k3⟩ := hs
    simp only [World.size_alloc] at k1 k2 k3
    have HL : Hid (LrM w w1 r gb cb' gt ct' x) := ⟨hrw, HX1.out, HB1.out, by omega, by omega, by omega⟩
    have HV : Hid (rnO x M L q = runO x M L q) := if_pos hv
    clear hb1 hv hrw HX1 HB1 hrc hrf k1 k2 k3
    go_wp2_with fail
    go_loopw [9, 20] (fun _ i wr => ∃ k : Nat, ∃ y : Ln, k ≤ q ∧ i = .int .i64 k ∧ Hid (runO x M L k = some y) ∧ Hid (LrM w wr r gb cb' gt ct' y)) (fun _ i _ => q - (intOf i).toNat)
    case atStart => exact ⟨0, x, Nat.zero_le _, rfl, Lib.hid rfl, HL⟩
    case round =>
      obtain ⟨k, y, hk, rfl, HY, HM⟩ := hrel
      have HNM := Lib.hid (runO_nm HY.out)
      by_cases hlt : k < q
      · obtain ⟨c0, c1⟩ := (HMV.out _ HM.out.bl).at k hlt
        have HMa : Hid (∀ a, LrM w (wr.alloc a) r gb cb' gt ct' y) := fun a => HM.out.below ((Below.refl wr.heap.size wr).alloc (Nat.le_refl _) a) rfl
        have HMO : Hid (∀ a, Calls Tryz.prog 142 #[.pointer (some ⟨r, 0, none⟩), .agg #[.int .i64 (M k), .string (L k)]] (wr.alloc a) (MvR (w.heap.size + 2) r gb cb' gt ct' y (M k) (L k) (wr.alloc a))) := fun a => by
          obtain ⟨e1, e2⟩ := HNM.out
          have hz := (HMa.out a).res.lt
          exact move_any (w.heap.size + 2) r gb cb' gt ct' y (M k) (L k) _ (by omega) (by omega) (HMa.out a).rw ⟨HM.out.h2, HM.out.h3, by omega⟩
        cases ho : mvOk y (M k) (L k)
        · have HO := Lib.hid ho
          have HN : Hid (rnO x M L q = none) := by
            have h1 : runO x M L (k + 1) = none := by simp only [runO, HY.out, Option.bind_some, stepO, ho]; rfl
            rw [HV.out]; exact runO_none h1 q (by omega)
          clear ho
          go_wp2_with fail
          refine (HMO.out _).mono ?_
          rintro e w2 ⟨rfl, hr2, hb2⟩
          rw [HO.out]
          rw [HO.out] at hr2
          have HM2 := Lib.hid ((HMa.out _).step hr2 hb2)
          have hxc := HM2.out.res.cell
          have hxf := HM2.out.res.free
          clear hr2 hb2
          go_wp2_with fail
          exact bodyPost_ret (v := .tuple #[nilLn, .bool false]) (by simp [results, Tryz.results124, go_sem, hxc, nilLn]) rfl ⟨(HM2.out.bl.setCell (by dsimp only; omega) _).setCell (by dsimp only; omega) _, .inl ⟨HN.out, rfl⟩⟩
        · have HO := Lib.hid ho
          have HN : Hid (runO x M L (k + 1) = some (mvTo y (M k) (L k))) := by
            show _ = _
            simp only [runO, HY.out, Option.bind_some, stepO, ho]; rfl
          clear ho
          go_wp2_with fail
          refine (HMO.out _).mono ?_
          rintro e w2 ⟨rfl, hr2, hb2⟩
          rw [HO.out]
          rw [HO.out, if_pos rfl] at hr2
          have HM2 := Lib.hid ((HMa.out _).step hr2 hb2)
          clear hr2 hb2
          go_wp2_with fail
          go_roundw
          case rel => exact ⟨k + 1, _, by omega, by go_num, HN, HM2⟩
          case measure => simp [intOf]; omega
      · obtain e : k = q := by omega
        subst e
        have hxc := HM.out.res.cell
        have hxf := HM.out.res.free
        have HLI : Hid (Calls Tryz.prog 143 #[.pointer (some ⟨r, 0, none⟩)] wr fun e w' => ∃ v, e = .returned v ∧ LnO wr.heap.size w' v y ∧ Below wr.heap.size wr w') := by
          obtain ⟨e1, e2⟩ := HNM.out
          exact line_any r gb cb' gt ct' y _ (by omega) (by omega) HM.out.rw
        go_wp2_with fail
        refine HLI.out.mono ?_
        rintro e w2 ⟨v, rfl, hl, hb⟩
        have HL2 := Lib.hid hl
        have HM2 := Lib.hid (HM.out.below hb rfl)
        obtain ⟨g1, c1, g2, c2, rfl, _⟩ := hl
        clear hb hxc hxf
        have hxc := HM2.out.res.cell
        have hxf := HM2.out.res.free
        have hz2 := HM.out.res.lt
        go_wp2_with fail
        refine bodyPost_ret (v := .tuple #[.agg #[.slice (some ⟨g1, 0, none⟩) y.n c1, .slice (some ⟨g2, 0, none⟩) y.m c2], .bool true]) (by simp [results, Tryz.results124, go_sem, hxc]) rfl ⟨(HM2.out.bl.setCell (by dsimp only; omega) _).setCell (by dsimp only; omega) _, .inr ⟨y, _, by rw [HV.out]; exact HY.out, rfl, (((HL2.out.mono (D := w.heap.size + 2) (by omega)).setOther (by omega) _).setOther (by omega) _).mono (by omega)⟩⟩
  · have HV : Hid (rnO x M L q = none) := by show _ = _; unfold rnO; rw [hv]; rfl
    clear hv hb1
    go_wp2_with fail
    exact bodyPost_ret (v := .tuple #[nilLn, .bool false]) (by simp [results, Tryz.results124, go_sem, hrc, nilLn]) rfl ⟨(HB1.out.setCell (by dsimp only; omega) _).setCell (by dsimp only; omega) _, .inl ⟨HV.out, rfl⟩⟩
end Go.Proofs.YtlkdmpfifpkpaaaGreatDoor
namespace Go.Proofs.YtlkdmpfifpkpaaaGreatDoor
open Go.RowKit

/-- the boxes of the reference's LineValid -/
structure VdM (w wr : World) (v1 v2 : Value) : Prop where
  box : Bx wr w.heap.size 31 #[v1, v2]
  bl : Below w.heap.size w wr
theorem VdM.below {w wr w' : World} {v1 v2 : Value} {D : Nat} (h : VdM w wr v1 v2) (hb : Below D wr w') (hD : D = wr.heap.size) : VdM w w' v1 v2 := by
  subst hD
  exact ⟨h.box.below hb h.box.lt, h.bl.trans (hb.mono h.bl.size)⟩
theorem BkC.keep {w w' : World} {b off n : Nat} {N : Nat → Int} {I O : Nat → Bool} (h : BkC w b off n N I O) (hb : Below w.heap.size w w') : BkC w' b off n N I O := fun k hk => by
  obtain ⟨h0, h1, h2⟩ := h k hk
  have hlt : b < w.heap.size := World.block_lt_of_cell? w ⟨b, off + k * 3, none⟩ h0
  exact ⟨by rw [hb.cell (p := ⟨b, off + k * 3, none⟩) hlt]; exact h0, by rw [hb.cell (p := ⟨b, off + k * 3 + 1, none⟩) hlt]; exact h1, by rw [hb.cell (p := ⟨b, off + k * 3 + 2, none⟩) hlt]; exact h2⟩
end Go.Proofs.YtlkdmpfifpkpaaaGreatDoor
namespace Go.Proofs.YtlkdmpfifpkpaaaGreatDoor
open Go.RowKit

/-- a copy of a line in new memory, in a box of its own -/
def CpC (w : World) (z : Nat) (x : Ln) (s8 : Value) (wx : World) : Prop :=
  ∃ b8 g1 c1 g2 c2, s8 = .pointer (some ⟨b8, 0, none⟩) ∧ Bx wx b8 31 #[.slice (some ⟨g1, 0, none⟩) x.n c1, .slice (some ⟨g2, 0, none⟩) x.m c2] ∧ Own wx g1 c1 x.n 3 76 (bkF x.N x.I x.O) ∧ Own wx g2 c2 x.m 1 3 (fun i => .int .i64 (x.T i)) ∧
    z ≤ b8 ∧ z ≤ g1 ∧ z ≤ g2 ∧ b8 ≠ g1 ∧ b8 ≠ g2 ∧ g1 ≠ g2 ∧ Below z w wx
theorem CpC.bl {wb wx : World} {z : Nat} {x : Ln} {s : Value} (h : CpC wb z x s wx) : Below z wb wx := by
  obtain ⟨_, _, _, _, _, _, _, _, _, _, _, _, _, _, _, hb⟩ := h
  exact hb
theorem bx2 {w : World} {b : Nat} {t : TypeId} {v0 v1 : Value} (h : Bx w b t #[v0, v1]) (u0 u1 : Value) : Bx ((w.setCell ⟨b, 0, none⟩ u0).setCell ⟨b, 1, none⟩ u1) b t #[u0, u1] := by
  have := (h.set 0 u0).set 1 u1
  simpa using this
structure CpF (wb wr : World) (x : Ln) (s1 s2 : Option (Nat × Nat × Nat)) (s3 : Option Nat) : Prop where
  r1 : ∀ g c n, s1 = some (g, c, n) → Own wr g c n 3 76 (bkF x.N x.I x.O) ∧ wb.heap.size ≤ g
  r2 : ∀ g c n, s2 = some (g, c, n) → Own wr g c n 1 3 (fun i => .int .i64 (x.T i)) ∧ wb.heap.size ≤ g
  r3 : ∀ b, s3 = some b → Bx wr b 31 #[.slice none 0 0, .slice none 0 0] ∧ wb.heap.size ≤ b
  d12 : ∀ g c n g' c' n', s1 = some (g, c, n) → s2 = some (g', c', n') → g ≠ g'
  d13 : ∀ g c n b, s1 = some (g, c, n) → s3 = some b → g ≠ b
  d23 : ∀ g c n b, s2 = some (g, c, n) → s3 = some b → g ≠ b
  bl : Below wb.heap.size wb wr
theorem CpF.bx {wb wr : World} {x : Ln} {s1 s2 : Option (Nat × Nat × Nat)} {b : Nat} (h : CpF wb wr x s1 s2 (some b)) : Bx wr b 31 #[.slice none 0 0, .slice none 0 0] := (h.r3 _ rfl).1
end Go.Proofs.YtlkdmpfifpkpaaaGreatDoor
namespace Go.Proofs.YtlkdmpfifpkpaaaGreatDoor
open Go.RowKit

/-- the boxes of the reference's step -/
structure StM (w wr : World) (v1 v2 : Value) (s : Int) (l : ByteArray) : Prop where
  arg : Bx wr w.heap.size 31 #[v1, v2]
  mb : Bx wr (w.heap.size + 1) 94 #[.int .i64 s, .string l]
  res : Bx wr (w.heap.size + 1 + 1) 31 #[.slice none 0 0, .slice none 0 0]
  bl : Below w.heap.size w wr
theorem StM.below {w wr w' : World} {v1 v2 : Value} {s : Int} {l : ByteArray} {D : Nat} (h : StM w wr v1 v2 s l) (hb : Below D wr w') (hD : w.heap.size + 3 ≤ D) : StM w w' v1 v2 s l :=
  ⟨h.arg.below hb (by omega), h.mb.below hb (by omega), h.res.below hb (by omega), h.bl.trans (hb.mono (by omega))⟩
theorem StM.sz {w wr : World} {v1 v2 : Value} {s : Int} {l : ByteArray} (h : StM w wr v1 v2 s l) : w.heap.size + 3 ≤ wr.heap.size := by
  have := h.res.lt; omega
/-- behind the copy -/
structure SfM (w wr : World) (v1 v2 : Value) (s : Int) (l : ByteArray) (b8 g1 c1 g2 c2 : Nat) (y : Ln) : Prop where
  st : StM w wr v1 v2 s l
  box : Bx wr b8 31 #[.slice (some ⟨g1, 0, none⟩) y.n c1, .slice (some ⟨g2, 0, none⟩) y.m c2]
  bs : Own wr g1 c1 y.n 3 76 (bkF y.N y.I y.O)
  ts : Own wr g2 c2 y.m 1 3 (fun i => .int .i64 (y.T i))
  z8 : w.heap.size + 3 ≤ b8
  z1 : w.heap.size + 3 ≤ g1
  z2 : w.heap.size + 3 ≤ g2
  d1 : b8 ≠ g1
  d2 : b8 ≠ g2
  d3 : g1 ≠ g2
theorem SfM.bl {w wr : World} {v1 v2 : Value} {s : Int} {l : ByteArray} {b8 g1 c1 g2 c2 : Nat} {y : Ln} (h : SfM w wr v1 v2 s l b8 g1 c1 g2 c2 y) {k : Nat} (hk : k < y.n) : wr.cell? ⟨g1, k * 3, none⟩ = some (.int .i64 (y.N k)) ∧ wr.cell? ⟨g1, k * 3 + 1, none⟩ = some (.bool (y.I k)) ∧ wr.cell? ⟨g1, k * 3 + 2, none⟩ = some (.bool (y.O k)) := by
  have := (BkC.of_own h.bs).at k hk
  simpa using this
theorem SfM.below {w wr w' : World} {v1 v2 : Value} {s : Int} {l : ByteArray} {b8 g1 c1 g2 c2 : Nat} {y : Ln} (h : SfM w wr v1 v2 s l b8 g1 c1 g2 c2 y) (hb : Below wr.heap.size wr w') : SfM w w' v1 v2 s l b8 g1 c1 g2 c2 y :=
  ⟨h.st.below hb h.st.sz, h.box.below hb h.box.lt, h.bs.below hb h.bs.lt, h.ts.below hb h.ts.lt, h.z8, h.z1, h.z2, h.d1, h.d2, h.d3⟩
theorem StM.setOther {w wr : World} {v1 v2 : Value} {s : Int} {l : ByteArray} (h : StM w wr v1 v2 s l) {b o : Nat} (hb : w.heap.size + 3 ≤ b) (v : Value) : StM w (wr.setCell ⟨b, o, none⟩ v) v1 v2 s l :=
  ⟨h.arg.setOther (by dsimp only; omega) _, h.mb.setOther (by dsimp only; omega) _, h.res.setOther (by dsimp only; omega) _, h.bl.setCell (p := ⟨b, o, none⟩) (by dsimp only; omega) _⟩
theorem SfM.setBk {w wr : World} {v1 v2 : Value} {s : Int} {l : ByteArray} {b8 g1 c1 g2 c2 : Nat} {y : Ln} (h : SfM w wr v1 v2 s l b8 g1 c1 g2 c2 y) (k : Nat) (a : Int) (b c : Bool) :
    SfM w (((wr.setCell ⟨g1, k * 3, none⟩ (.int .i64 a)).setCell ⟨g1, k * 3 + 1, none⟩ (.bool b)).setCell ⟨g1, k * 3 + 2, none⟩ (.bool c)) v1 v2 s l b8 g1 c1 g2 c2 { y with N := upd y.N k a, I := upd y.I k b, O := upd y.O k c } := by
  have d1 := h.d1
  have d3 := h.d3
  exact ⟨((h.st.setOther h.z1 _).setOther h.z1 _).setOther h.z1 _, ((h.box.setOther (by dsimp only; omega) _).setOther (by dsimp only; omega) _).setOther (by dsimp only; omega) _, h.bs.setBk k a b c, ((h.ts.setOther (by dsimp only; omega) _).setOther (by dsimp only; omega) _).setOther (by dsimp only; omega) _, h.z8, h.z1, h.z2, h.d1, h.d2, h.d3⟩
theorem SfM.setTr {w wr : World} {v1 v2 : Value} {s : Int} {l : ByteArray} {b8 g1 c1 g2 c2 : Nat} {y : Ln} (h : SfM w wr v1 v2 s l b8 g1 c1 g2 c2 y) (j : Nat) (a : Int) :
    SfM w (wr.setCell ⟨g2, j, none⟩ (.int .i64 a)) v1 v2 s l b8 g1 c1 g2 c2 { y with T := upd y.T j a } := by
  have d2 := h.d2
  have d3 := h.d3
  exact ⟨h.st.setOther h.z2 _, h.box.setOther (by dsimp only; omega) _, h.bs.setOther (by dsimp only; omega) _, h.ts.setInt j a, h.z8, h.z1, h.z2, h.d1, h.d2, h.d3⟩
/-- the result box filled -/
theorem SfM.done {w wr : World} {v1 v2 : Value} {s : Int} {l : ByteArray} {b8 g1 c1 g2 c2 : Nat} {y : Ln} (h : SfM w wr v1 v2 s l b8 g1 c1 g2 c2 y) (u0 u1 : Value) :
    LnO w.heap.size ((wr.setCell ⟨w.heap.size + 1 + 1, 0, none⟩ u0).setCell ⟨w.heap.size + 1 + 1, 1, none⟩ u1) (.agg #[.slice (some ⟨g1, 0, none⟩) y.n c1, .slice (some ⟨g2, 0, none⟩) y.m c2]) y ∧ Below w.heap.size w ((wr.setCell ⟨w.heap.size + 1 + 1, 0, none⟩ u0).setCell ⟨w.heap.size + 1 + 1, 1, none⟩ u1) := by
  have z1 := h.z1
  have z2 := h.z2
  exact ⟨⟨g1, c1, g2, c2, rfl, (h.bs.setOther (by dsimp only; omega) _).setOther (by dsimp only; omega) _, (h.ts.setOther (by dsimp only; omega) _).setOther (by dsimp only; omega) _, h.d3, by omega, by omega⟩, (h.st.bl.setCell (p := ⟨w.heap.size + 1 + 1, 0, none⟩) (by dsimp only; omega) _).setCell (p := ⟨w.heap.size + 1 + 1, 1, none⟩) (by dsimp only; omega) _⟩
end Go.Proofs.YtlkdmpfifpkpaaaGreatDoor
namespace Go.Proofs.YtlkdmpfifpkpaaaGreatDoor
open Go.RowKit

/-- the boxes of the reference's LineRun: the argument, the result, the line so far -/
structure SrML (w wr : World) (v1 v2 : Value) (b6 : Nat) (va vb : Value) : Prop where
  arg : Bx wr w.heap.size 31 #[v1, v2]
  res : Bx wr (w.heap.size + 1) 31 #[.slice none 0 0, .slice none 0 0]
  out : Bx wr b6 31 #[va, vb]
  bl : Below w.heap.size w wr
  z6 : w.heap.size + 2 ≤ b6
/-- a line in memory beyond z -/
def LnZ (z : Nat) (w : World) (va vb : Value) (y : Ln) : Prop :=
  ∃ g1 c1 g2 c2, va = .slice (some ⟨g1, 0, none⟩) y.n c1 ∧ vb = .slice (some ⟨g2, 0, none⟩) y.m c2 ∧ Own w g1 c1 y.n 3 76 (bkF y.N y.I y.O) ∧ Own w g2 c2 y.m 1 3 (fun i => .int .i64 (y.T i)) ∧ g1 ≠ g2 ∧ z ≤ g1 ∧ z ≤ g2
theorem LnZ.below {z D : Nat} {w w' : World} {va vb : Value} {y : Ln} (h : LnZ z w va vb y) (hb : Below D w w') (hD : w.heap.size ≤ D) : LnZ z w' va vb y := by
  obtain ⟨g1, c1, g2, c2, e1, e2, h1, h2, h3⟩ := h
  exact ⟨g1, c1, g2, c2, e1, e2, h1.below hb (Nat.lt_of_lt_of_le h1.lt hD), h2.below hb (Nat.lt_of_lt_of_le h2.lt hD), h3⟩
theorem LnZ.setOther {z : Nat} {w : World} {va vb : Value} {y : Ln} (h : LnZ z w va vb y) {b o : Nat} (hb : ∀ g1 c1 n, va = .slice (some ⟨g1, 0, none⟩) n c1 → b ≠ g1) (hb' : ∀ g2 c2 n, vb = .slice (some ⟨g2, 0, none⟩) n c2 → b ≠ g2) (u : Value) : LnZ z (w.setCell ⟨b, o, none⟩ u) va vb y := by
  obtain ⟨g1, c1, g2, c2, rfl, rfl, h1, h2, h3⟩ := h
  exact ⟨g1, c1, g2, c2, rfl, rfl, h1.setOther (fun e => hb _ _ _ rfl e.symm) _, h2.setOther (fun e => hb' _ _ _ rfl e.symm) _, h3⟩
theorem SrML.below {w wr w' : World} {v1 v2 va vb : Value} {b6 D : Nat} (h : SrML w wr v1 v2 b6 va vb) (hb : Below D wr w') (hD : wr.heap.size ≤ D) : SrML w w' v1 v2 b6 va vb :=
  ⟨h.arg.below hb (Nat.lt_of_lt_of_le h.arg.lt hD), h.res.below hb (Nat.lt_of_lt_of_le h.res.lt hD), h.out.below hb (Nat.lt_of_lt_of_le h.out.lt hD), h.bl.trans (hb.mono (Nat.le_trans h.bl.size hD)), h.z6⟩
theorem SrML.setOther {w wr : World} {v1 v2 va vb : Value} {b6 b o : Nat} (h : SrML w wr v1 v2 b6 va vb) (hb : b ≠ b6) (hz : w.heap.size + 2 ≤ b) (u : Value) : SrML w (wr.setCell ⟨b, o, none⟩ u) v1 v2 b6 va vb :=
  ⟨h.arg.setOther (by dsimp only; omega) _, h.res.setOther (by dsimp only; omega) _, h.out.setOther (fun e => hb e.symm) _, h.bl.setCell (p := ⟨b, o, none⟩) (by dsimp only; omega) _, h.z6⟩
theorem LnZ.mono {z z' : Nat} {w : World} {va vb : Value} {y : Ln} (h : LnZ z w va vb y) (hz : z' ≤ z) : LnZ z' w va vb y := by
  obtain ⟨g1, c1, g2, c2, e1, e2, h1, h2, h3, h4, h5⟩ := h
  exact ⟨g1, c1, g2, c2, e1, e2, h1, h2, h3, by omega, by omega⟩
theorem LnZ.lts {z : Nat} {w : World} {p1 n1 c1 p2 n2 c2 : Nat} {y : Ln} (h : LnZ z w (.slice (some ⟨p1, 0, none⟩) n1 c1) (.slice (some ⟨p2, 0, none⟩) n2 c2) y) : p1 < w.heap.size ∧ p2 < w.heap.size := by
  obtain ⟨g1, c1, g2, c2, e1, e2, h1, h2, h3, h4, h5⟩ := h
  cases e1
  cases e2
  exact ⟨h1.lt, h2.lt⟩
theorem LnZ.done {w wr : World} {p1 c1 p2 c2 : Nat} {y : Ln} (h : LnZ (w.heap.size + 2) wr (.slice (some ⟨p1, 0, none⟩) y.n c1) (.slice (some ⟨p2, 0, none⟩) y.m c2) y) (u0 u1 : Value) :
    LnO w.heap.size ((wr.setCell ⟨w.heap.size + 1, 0, none⟩ u0).setCell ⟨w.heap.size + 1, 1, none⟩ u1) (.agg #[.slice (some ⟨p1, 0, none⟩) y.n c1, .slice (some ⟨p2, 0, none⟩) y.m c2]) y := by
  obtain ⟨g1, c1, g2, c2, e1, e2, h1, h2, h3, h4, h5⟩ := h
  cases e1
  cases e2
  exact ⟨_, _, _, _, rfl, (h1.setOther (by dsimp only; omega) _).setOther (by dsimp only; omega) _, (h2.setOther (by dsimp only; omega) _).setOther (by dsimp only; omega) _, h3, by omega, by omega⟩
end Go.Proofs.YtlkdmpfifpkpaaaGreatDoor
namespace Go.Proofs.YtlkdmpfifpkpaaaGreatDoor
open Go.RowKit

/-- a row of blocks as a value; where n is 0 it may be nil -/
def BL (w : World) (v : Value) (n : Nat) (N : Nat → Int) (I O : Nat → Bool) : Prop :=
  (∃ b o c, v = .slice (some ⟨b, o, none⟩) n c ∧ BkC w b o n N I O) ∨ (n = 0 ∧ ∃ ao c, v = .slice ao 0 c)
theorem BL.keep {w w' : World} {v : Value} {n : Nat} {N : Nat → Int} {I O : Nat → Bool} (h : BL w v n N I O) (hb : Below w.heap.size w w') : BL w' v n N I O := by
  rcases h with ⟨b, o, c, e, h⟩ | h
  · exact .inl ⟨b, o, c, e, h.keep hb⟩
  · exact .inr h
theorem BL.shape {w : World} {v : Value} {n : Nat} {N : Nat → Int} {I O : Nat → Bool} (h : BL w v n N I O) : ∃ ao c, v = .slice ao n c := by
  rcases h with ⟨b, o, c, e, _⟩ | ⟨rfl, ao, c, e⟩
  · exact ⟨_, _, e⟩
  · exact ⟨_, _, e⟩
theorem elMvL : Elem Tryz.prog 54 94 (.agg #[.int .i64 0, .string ⟨#[]⟩]) 2 24 := ⟨Tryz.underlying54, by kernel_rfl, rfl, by decide⟩
theorem Own.bl {w : World} {g cap n : Nat} {N : Nat → Int} {I O : Nat → Bool} {t : TypeId} (h : Own w g cap n 3 t (bkF N I O)) {k : Nat} (hk : k < n) : w.cell? ⟨g, k * 3, none⟩ = some (.int .i64 (N k)) ∧ w.cell? ⟨g, k * 3 + 1, none⟩ = some (.bool (I k)) ∧ w.cell? ⟨g, k * 3 + 2, none⟩ = some (.bool (O k)) := by
  have := (BkC.of_own h).at k hk
  simpa using this
/-- a row of zero blocks -/
theorem own_bk0 (w : World) (n : Nat) (hn : n ≤ 1000000000000) : Own (w.alloc (.cells (madeCells #[.int .i64 0, .bool false, .bool false] (n * 3)) 76)) w.heap.size n n 3 76 (bkF (fun _ => 0) (fun _ => false) (fun _ => false)) :=
  own_full w _ n 3 _ _ (by unfold maxLen; omega) rfl (by omega) (fun i _ => by
    unfold bkF
    have h3 : i % 3 = 0 ∨ i % 3 = 1 ∨ i % 3 = 2 := by omega
    rcases h3 with h | h | h <;> simp [h])
end Go.Proofs.YtlkdmpfifpkpaaaGreatDoor
namespace Go.Proofs.YtlkdmpfifpkpaaaGreatDoor
open Go.RowKit

/-- the cells of a list of moves -/
def mvC (ys : List (Int × ByteArray)) : List Value := ys.flatMap fun y => [.int .i64 y.1, .string y.2]
theorem mvC_snoc (ys : List (Int × ByteArray)) (y : Int × ByteArray) : mvC (ys ++ [y]) = mvC ys ++ [.int .i64 y.1, .string y.2] := by simp [mvC]
theorem infoMv : (Tryz.prog.info? 94).map (fun i => (i.zero, i.size, i.bytes)) = some (some (.agg #[.int .i64 0, .string ⟨#[]⟩]), 2, 24) := by kernel_rfl
theorem mvs_stops (n : Nat) (hn : 1 ≤ n) (Bs r gb cb gt ct : Nat) (x : Ln) (hxn : x.n ≤ 1000000) (hxm : x.m ≤ 1000000) (n₀ : Nat) (w : World) (hn0 : n₀ ≤ w.heap.size) (hBs : w.cell? ⟨Bs, 0, none⟩ = some (.pointer (some ⟨r, 0, none⟩))) (hB1 : Bs < n₀) (hr : RwC w r gb cb gt ct x) (hB2 : r < n₀) (hB3 : gb < n₀) (hB4 : gt < n₀) :
    SeqStopsK Fence.wide n Tryz.prog 166 #[.pointer (some ⟨Bs, 0, none⟩)] (fun y : Int × ByteArray => #[.agg #[.int .i64 y.1, .string y.2]]) (Below n₀) (fun ys => ys = mvsL x) (fun pre => pre <+: mvsL x) (7 * x.n + 1) w := fun l J Jx W hW hJ _ hY h0 => by
  refine mv1_in n hn l Bs n₀ r gb cb gt ct x hxn hxm J Jx W hJ hY ?_ hB1 (hr.below hW (Nat.le_refl _)) hB2 hB3 hB4 (Nat.le_trans hn0 hW.size) h0
  rw [hW.cell (p := ⟨Bs, 0, none⟩) (by dsimp only; omega)]
  exact hBs
theorem moves_any (p : Option Addr) (w : World) :
    Calls Tryz.prog 147 #[.pointer p] w fun e w' => e = .returned (.func (.func 166) #[] #[.pointer (some ⟨w.heap.size, 0, none⟩)]) ∧ w' = w.alloc (.cells #[.pointer p] 174) := by
  go_enter Tryz.func147, Tryz.ntmps147
  go_wp2_with fail
  go_ret
  exact ⟨rfl, rfl⟩
theorem cell_two_new (w : World) (u v : Value) (t : TypeId) : ∀ j z, [u, v][j]? = some z → (w.alloc (.cells #[u, v] t)).cell? ((⟨w.heap.size, 0, none⟩ : Addr).add j) = some z := by
  intro j z hj
  rw [addr_add, Nat.zero_add, box_new]
  simpa using hj
theorem bx_notrow {W : World} {b B : Nat} {t : TypeId} {cs : Array Value} {row : Option Nat} (h : Bx W b t cs) (hr : ∀ r, row = some r → B ≤ r ∧ ∃ o : Obj, W.heap[r]? = some o ∧ o.isCells = false) : row ≠ some b := fun e => by
  obtain ⟨_, o, ho, hc⟩ := hr b e
  rw [show W.heap[b]? = _ from h] at ho
  cases ho
  cases hc
attribute [local go_sem] Oper.semAt_some
set_option linter.unusedSimpArgs false in
set_option maxRecDepth 100000 in
set_option maxHeartbeats 4000000 in
theorem appendSeq_in (n : Nat) (hn : 4 ≤ n) (Bs r gb cb gt ct : Nat) (x : Ln) (hxn : x.n ≤ 1000000) (hxm : x.m ≤ 1000000) (w : World) (hBs : w.cell? ⟨Bs, 0, none⟩ = some (.pointer (some ⟨r, 0, none⟩))) (hB1 : Bs < w.heap.size) (hr : RwC w r gb cb gt ct x) :
    CallsIn Fence.wide n Tryz.prog 165 #[.slice none 0 0, .func (.func 166) #[] #[.pointer (some ⟨Bs, 0, none⟩)]] w fun e W' => ∃ v, e = .returned v ∧ W'.ownsRow w.heap.size 94 2 v (mvsL x).length (mvC (mvsL x)) ∧ Below w.heap.size w W' := by
  have h1 : 1 ≤ n := by omega
  obtain ⟨i0, hi, hz0, hz1, hz2⟩ := info_parts infoMv
  have HR := Lib.hid hr
  have HBs := Lib.hid hBs
  clear hr hBs
  refine callsIn_of_wp_marks Tryz.func165 rfl trivial ?_ rfl
  simp only [Tryz.ntmps165, List.size_toArray, List.length_cons, List.length_nil, Nat.reduceAdd, Nat.reduceSub, Array.replicate_succ, Array.replicate_zero, List.push_toArray, List.append_toArray, List.nil_append, List.cons_append]
  gi_wp2
  have bO := Boxed.new w 54 (.slice none 0 0)
  have hB0 : Below w.heap.size w (w.alloc (.cells #[.slice none 0 0] 54)) := below_all _ _
  refine wpIn_rangeFunc_ownH rfl h1 (gf := 166) (lb := #[.pointer (some ⟨Bs, 0, none⟩)]) rfl trivial (enters_of Tryz.func166 (by kernel_rfl) rfl)
    (mvs_stops (n - 1) (by omega) Bs r gb cb gt ct x hxn hxm w.heap.size (w.alloc (.cells #[.slice none 0 0] 54)) (by simp) (by rw [hB0.cell (p := ⟨Bs, 0, none⟩) hB1]; exact HBs.out) hB1 (HR.out.below hB0 (Nat.le_refl _)) HR.out.box.lt HR.out.bs.lt HR.out.ts.lt) belowK_t (belowK_b (by simp)) (Below.refl _ _) (fun _ => rfl)
    (fun pre W => (∃ v, Boxed W w.heap.size 54 v ∧ W.ownsRow w.heap.size 94 2 v pre.length (mvC pre) ∧ True) ∧ Below w.heap.size w W)
    (fun _ _ _ => False)
    (OwnFrom.and (Go.Own.from (holdsRow_own w.heap.size w.heap.size 54 94 2 (fun pre => pre.length) (fun pre => mvC pre) (fun _ _ => True)) _) (ownFrom_below (Nat.le_refl _) (by simp)))
    (fun _ _ _ _ _ hs _ _ => hs)
    ⟨⟨_, bO, World.ownsRow_nil _ _ _ _, trivial⟩, hB0⟩
    (fun y a' W => ∃ Bv, w.heap.size + 1 ≤ Bv ∧ Bx W Bv 94 #[.int .i64 y.1, .string y.2] ∧ a' = { tmps := #[.slice none 0 0, .func (.func 166) #[] #[.pointer (some ⟨Bs, 0, none⟩)], .pointer (some ⟨w.heap.size, 0, none⟩), undef, .slice none 0 0, .pointer (some ⟨Bv, 0, none⟩), .func (.func 166) #[] #[.pointer (some ⟨Bs, 0, none⟩)], .agg #[.int .i64 y.1, .string y.2], undef, undef, undef, undef, undef], defers := [] })
    (fun y a' s A B row hs hg hr => by
      obtain ⟨Bv, q1, q2, q3⟩ := hs
      exact ⟨Bv, q1, q2.of_block (hg.block Bv q2.lt (fun e => bx_notrow q2 hr e.symm)), q3⟩) ?assign ?body ?done ?stop
  case assign =>
    rintro l pre y W K ⟨⟨v, hv, hrow, _⟩, hB⟩ hK
    gi_wp2
    exact hK _ _ ((KeepsOthers.alloc _ _).from _) ((Below.refl _ W).alloc hB.size _) ⟨⟨v, hv.alloc _, hrow.alloc _, trivial⟩, hB.alloc hB.size _⟩ ⟨W.heap.size, by have := hv.lt; omega, Bx.new _ _ _, rfl⟩
  case body =>
    rintro l pre y a' W hl ⟨r', hr'⟩ ⟨⟨v, hv, hrow, _⟩, hB⟩ ⟨Bv, hBv, bX, rfl⟩ hlt
    have hc := hv.cell
    have hxc := bX.cell
    gi_wp2_with (gi_at_builtin; refine wpListIn_append_own _ rfl _ _ 54 rfl w.heap.size 94 i0 (.agg #[.int .i64 0, .string ⟨#[]⟩]) 2 24 Tryz.underlying54 hi hz0 hz1 hz2 rfl (by decide) _ _ _ rfl (hrow.alloc _) ⟨W.heap.size, 0, none⟩ 1 1 [.int .i64 y.1, .string y.2] rfl rfl (cell_two_new _ _ _ _) (by simp [Value.oneCell']) (by unfold maxLen; omega) (by omega) (by have := hB.size; simp; omega) ?_; intro v' w1 hown' hgrow _; obtain ⟨g', cap', rfl⟩ := ownsRow_succ hown'; obtain ⟨hv1, hv2, hr2, hk2, hb2⟩ := hv.appended (by decide) hrow hB.size (Nat.le_refl _) hown' hgrow; have hc1 := hv1.cell; have hf1 := hv1.frozen)
    exact ⟨hk2.from _, hb2, ⟨_, hv2, by rw [mvC_snoc]; simpa using hr2, trivial⟩, hB.trans hb2⟩
  case done =>
    rintro D ys W hD rfl ⟨⟨v, hv, hrow, _⟩, hB⟩ hK
    have hc := hv.cell
    gi_wp2
    refine ⟨by simp, .inl ⟨_, _, rfl, run_takeDeferred hK, ?_⟩⟩
    exact ⟨_, results_tmp rfl _ _ _, v, rfl, ownsRow_putObj hrow _ hK rfl, hB.trans (belowK_b (w := w) (Nat.le_refl _) W D _ _ (by simp at hD; omega) hK rfl rfl)⟩
  case stop =>
    rintro D c pre W _ _ h _
    exact h.elim
end Go.Proofs.YtlkdmpfifpkpaaaGreatDoor
namespace Go.Proofs.YtlkdmpfifpkpaaaGreatDoor
open Go.RowKit

/-- the numbers and the letters of a list of moves -/
def mvM (ys : List (Int × ByteArray)) (i : Nat) : Int := (ys[i]?.getD (0, ⟨#[]⟩)).1
def mvS (ys : List (Int × ByteArray)) (i : Nat) : ByteArray := (ys[i]?.getD (0, ⟨#[]⟩)).2
theorem mvC_at (ys : List (Int × ByteArray)) : ∀ i, i < ys.length * 2 → (mvC ys)[i]? = some (mvF (mvM ys) (mvS ys) i) := by
  induction ys with
  | nil => intro i hi; simp at hi
  | cons y ys ih =>
    intro i hi
    have e : mvC (y :: ys) = .int .i64 y.1 :: .string y.2 :: mvC ys := by simp [mvC]
    rw [e]
    match i with
    | 0 => simp [mvF, mvM]
    | 1 => simp [mvF, mvS]
    | i + 2 =>
      have h := ih i (by simp at hi; omega)
      simp only [List.getElem?_cons_succ]
      rw [h]
      unfold mvF
      have e1 : (i + 2) % 2 = i % 2 := by omega
      have e2 : (i + 2) / 2 = i / 2 + 1 := by omega
      rw [e1, e2]
      simp [mvM, mvS]
/-- a slice of moves in new memory, or nil where there are none -/
def RowMs (z : Nat) (W : World) (v : Value) (ys : List (Int × ByteArray)) (g : Option Nat) : Prop :=
  (∃ b c, g = some b ∧ v = .slice (some ⟨b, 0, none⟩) ys.length c ∧ z ≤ b ∧ Own W b c ys.length 2 94 (mvF (mvM ys) (mvS ys))) ∨ (g = none ∧ ys = [] ∧ v = .slice none 0 0)
theorem rowMs_of {z : Nat} {W : World} {v : Value} {ys : List (Int × ByteArray)} (h : W.ownsRow z 94 2 v ys.length (mvC ys)) : ∃ g, RowMs z W v ys g := by
  rcases h.2 with ⟨rfl, h0⟩ | ⟨g, cap, cur, rfl, hz, hg, hc, hm, hs, ht⟩
  · exact ⟨none, .inr ⟨rfl, List.length_eq_zero_iff.1 h0, rfl⟩⟩
  · refine ⟨some g, .inl ⟨g, cap, rfl, rfl, hz, hc, hm, cur, hg, hs, fun i hi => ?_⟩⟩
    rw [← mvC_at ys i hi, ← ht, List.getElem?_take_of_lt hi]
    simp
set_option linter.unusedSimpArgs false in
theorem collect_any (Bs r gb cb gt ct : Nat) (x : Ln) (hxn : x.n ≤ 1000000) (hxm : x.m ≤ 1000000) (w : World) (hBs : w.cell? ⟨Bs, 0, none⟩ = some (.pointer (some ⟨r, 0, none⟩))) (hB1 : Bs < w.heap.size) (hr : RwC w r gb cb gt ct x) :
    Calls Tryz.prog 146 #[.func (.func 166) #[] #[.pointer (some ⟨Bs, 0, none⟩)]] w fun e W' => (∃ v g, e = .returned v ∧ RowMs w.heap.size W' v (mvsL x) g) ∧ Below w.heap.size w W' := by
  have HA : Hid (Calls Tryz.prog 165 #[.slice none 0 0, .func (.func 166) #[] #[.pointer (some ⟨Bs, 0, none⟩)]] w fun e W' => ∃ v, e = .returned v ∧ W'.ownsRow w.heap.size 94 2 v (mvsL x).length (mvC (mvsL x)) ∧ Below w.heap.size w W') := callsIn_wide.1 (appendSeq_in 4 (Nat.le_refl _) Bs r gb cb gt ct x hxn hxm w hBs hB1 hr)
  clear hBs hB1 hr
  go_enter Tryz.func146, Tryz.ntmps146
  go_wp2_with fail
  refine HA.out.mono ?_
  rintro e w1 ⟨v, rfl, hv, hb⟩
  obtain ⟨g, hg⟩ := rowMs_of hv
  have HG := Lib.hid hg
  have HB := Lib.hid hb
  clear hv hg hb
  go_wp2_with fail
  go_ret
  exact ⟨⟨v, g, rfl, HG.out⟩, HB.out⟩
/-- the moves of a line -/
def lmL (x : Ln) : List (Int × ByteArray) := if vldL x = true then mvsL x else []
set_option linter.unusedSimpArgs false in
theorem lineMoves_any (bb bo cb tb tu ct : Nat) (x : Ln) (w : World) (hn : x.n ≤ 1000000000000) (hm : x.m ≤ 1000000000000) (hbk : BkC w bb bo x.n x.N x.I x.O) (hic : IC w tb tu x.m x.T) :
    Calls Tryz.prog 126 #[.agg #[.slice (some ⟨bb, bo, none⟩) x.n cb, .slice (some ⟨tb, tu, none⟩) x.m ct]] w fun e W' => (∃ v g, e = .returned v ∧ RowMs w.heap.size W' v (lmL x) g) ∧ Below w.heap.size w W' := by
  have HBB : Hid (∀ a, Below w.heap.size w (w.alloc a)) := fun a => below_all _ _
  have HRW : Hid (∀ w', Below w.heap.size w w' → Calls Tryz.prog 141 #[.agg #[.slice (some ⟨bb, bo, none⟩) x.n cb, .slice (some ⟨tb, tu, none⟩) x.m ct]] w' (RwO x w')) := fun w' hb => by
    refine railwayOf_any bb bo cb tb tu ct x w' hn hm ?_ (hic.keep hb)
    intro k hk
    obtain ⟨h0, h1, h2⟩ := hbk k hk
    have hlt : bb < w.heap.size := World.block_lt_of_cell? w ⟨bb, bo + k * 3, none⟩ h0
    exact ⟨by rw [hb.cell (p := ⟨bb, bo + k * 3, none⟩) hlt]; exact h0, by rw [hb.cell (p := ⟨bb, bo + k * 3 + 1, none⟩) hlt]; exact h1, by rw [hb.cell (p := ⟨bb, bo + k * 3 + 2, none⟩) hlt]; exact h2⟩
  clear hbk hic
  go_enter Tryz.func126, Tryz.ntmps126
  go_wp2_with fail
  refine (HRW.out _ (HBB.out _)).mono ?_
  rintro e w1 ⟨hb1, h1⟩
  have HB1 := Lib.hid ((HBB.out _).trans (hb1.mono (by simp)))
  rcases h1 with ⟨hv, s, rfl, r, gb, cb', gt, ct', rfl, hrw, k1, k2, k3⟩ | ⟨hv, rfl⟩
  · have HV : Hid (lmL x = mvsL x) := if_pos hv
    have hvl := vldL_true hv
    have HR := Lib.hid hrw
    have hxn : x.n ≤ 5 := hvl.2.1
    have hxm : x.m ≤ 5 := hvl.2.2.1
    clear hb1 hv hrw hvl k1 k2 k3
    go_wp2_with fail
    refine (moves_any _ _).mono ?_
    rintro e w2 ⟨rfl, rfl⟩
    have HB2 : Hid (∀ a, Below w.heap.size w (w1.alloc a)) := fun a => HB1.out.alloc HB1.out.size _
    have HCO : Hid (Calls Tryz.prog 146 #[.func (.func 166) #[] #[.pointer (some ⟨w1.heap.size, 0, none⟩)]] (w1.alloc (.cells #[.pointer (some ⟨r, 0, none⟩)] 174)) fun e W' => (∃ v g, e = .returned v ∧ RowMs (w1.alloc (.cells #[.pointer (some ⟨r, 0, none⟩)] 174)).heap.size W' v (mvsL x) g) ∧ Below (w1.alloc (.cells #[.pointer (some ⟨r, 0, none⟩)] 174)).heap.size (w1.alloc (.cells #[.pointer (some ⟨r, 0, none⟩)] 174)) W') :=
      collect_any w1.heap.size r gb cb' gt ct' x (by omega) (by omega) _ ((Bx.new _ _ _).cell 0) (by simp) (HR.out.below (below_all _ _) (Nat.le_refl _))
    go_wp2_with fail
    refine HCO.out.mono ?_
    rintro e w3 ⟨⟨v, g, rfl, hg⟩, hb3⟩
    have HB3 := Lib.hid ((HB2.out _).trans (hb3.mono (HB2.out _).size))
    have HG : Hid (RowMs w.heap.size w3 v (mvsL x) g) := by
      have hz := (HB2.out (.cells #[.pointer (some ⟨r, 0, none⟩)] 174)).size
      rcases hg with ⟨b, c, e1, e2, e3, e4⟩ | h
      · exact .inl ⟨b, c, e1, e2, by omega, e4⟩
      · exact .inr h
    clear hb3 hg
    go_wp2_with fail
    go_ret
    exact ⟨⟨v, g, rfl, by rw [HV.out]; exact HG.out⟩, HB3.out⟩
  · have HV : Hid (lmL x = []) := by show _ = _; unfold lmL; rw [hv]; rfl
    have HO : Hid (RowMs w.heap.size (w1.alloc (.cells #[] 94)) (.slice (some ⟨w1.heap.size, 0, none⟩) 0 0) [] (some w1.heap.size)) := .inl ⟨_, 0, rfl, rfl, HB1.out.size, own_empty _ _ _ _⟩
    have HB2 : Hid (∀ a, Below w.heap.size w (w1.alloc a)) := fun a => HB1.out.alloc HB1.out.size _
    clear hb1 hv
    go_wp2_with fail
    go_ret
    exact ⟨⟨_, _, rfl, by rw [HV.out]; exact HO.out⟩, HB2.out _⟩
end Go.Proofs.YtlkdmpfifpkpaaaGreatDoor
namespace Go.Proofs.YtlkdmpfifpkpaaaGreatDoor
open Go.RowKit

theorem oper_round {P : Program} {o : Oper} {a : Act} {w : World} {K : Act → World → Prop} {Q : Exit → Act → World → Prop} (l n : Nat) (hnd : ∀ c, o.op ≠ .defer c) (h : o.wp P a w K Q) : o.wpIn (Fence.wide.inRound l) n P a w K Q := by
  refine ⟨fun _ _ => trivial, ?_⟩
  unfold Oper.wp at h
  rw [Oper.semAt_eq _ _ _ hnd]
  generalize (execOp a.eval o).run P w = r at *
  cases r with
  | ok x w' =>
    cases x with
    | value v => exact h
    | skip => exact h
    | defer d => exact h
    | enter f args => exact ⟨(fun hd => by cases hd), CallsIn.inRound l (callsIn_wide.2 h)⟩
    | row row args =>
      refine ⟨(fun hd => by cases hd), fun c cs _ => ?_⟩
      obtain ⟨v, w'', h1, h2⟩ := h c cs
      exact ⟨v, w'', h1, stepsIn_wide.2 h2⟩
    | _ => exact h.elim
  | halt x w' =>
    cases x <;> first | exact h | exact h.elim
theorem any_round {P : Program} {md : Region.Mode} {ops : Array Oper} {Q : Exit → Act → World → Prop} (l n : Nat) (hnd : ∀ (i : Nat) (o : Oper), ops[i]? = some o → ∀ c, o.op ≠ .defer c) (hlo : ¬ LetsOut Q) :
    ∀ (fuel : Nat) (listed : Array Bool) (a : Act) (w : World), wpAny P md ops Q fuel listed a w → wpAnyIn (Fence.wide.inRound l) n P md ops Q fuel listed a w
  | 0, listed, a, w, h => h
  | fuel + 1, listed, a, w, h => by
    refine ⟨h.1, fun i hi => ?_⟩
    have h2 := h.2 i hi
    unfold wpOp at h2
    unfold wpOpIn
    cases ho : ops[i]? with
    | none => rw [ho] at h2; exact any_round l n hnd hlo fuel _ _ _ h2
    | some o =>
      rw [ho] at h2
      dsimp only at h2 ⊢
      by_cases hw : Region.wanted o (yielded ops a.tmps) = true
      · rw [if_pos hw] at h2 ⊢
        rcases h2 with h2 | ⟨_, h2⟩
        · exact Oper.wpIn_mono (fun a w h => any_round l n hnd hlo fuel _ _ _ h) (oper_round l n (hnd i o ho) h2)
        · exact absurd h2 hlo
      · rw [if_neg hw] at h2 ⊢
        exact ⟨fun _ _ => trivial, any_round l n hnd hlo fuel _ _ _ h2⟩
/-- no operation defers a call -/
def noDefer (ops : Array Oper) : Bool := ops.all fun o => match o.op with | .defer _ => false | _ => true
theorem noDefer_spec {ops : Array Oper} (h : noDefer ops = true) : ∀ (i : Nat) (o : Oper), ops[i]? = some o → ∀ c, o.op ≠ .defer c := by
  intro i o ho c e
  unfold noDefer at h
  rw [Array.all_eq_true] at h
  obtain ⟨hi, he⟩ := Array.getElem?_eq_some_iff.1 ho
  have := h i hi
  rw [he, e] at this
  cases this
theorem region_round {P : Program} {ops : Array Oper} {Q : Exit → Act → World → Prop} {S : World → Prop} {id l n : Nat} {a : Act} {w : World} (hm : P.follows .mixedOrders = true) (hnd : noDefer ops = true) (hlo : ¬ LetsOut Q)
    (hS : S w.drew) (h : S w.drew → wpAnyH P .any ops Q S ops.size (Array.replicate ops.size false) a w.drew) : (Code.region id ops true).wpIn (Fence.wide.inRound l) n P Q a w :=
  wpIn_region_any hm (any_round l n (noDefer_spec hnd) hlo _ _ _ _ (wpAny_of_held _ _ _ _ (h hS)))
end Go.Proofs.YtlkdmpfifpkpaaaGreatDoor
namespace Go.Proofs.YtlkdmpfifpkpaaaGreatDoor
open Go.RowKit

/-- a line as an argument -/
def LnV (w : World) (v : Value) (x : Ln) : Prop := ∃ va vb, v = .agg #[va, vb] ∧ BL w va x.n x.N x.I x.O ∧ SL w vb x.m x.T
theorem LnV.keep {w w' : World} {v : Value} {x : Ln} (h : LnV w v x) (hb : Below w.heap.size w w') : LnV w' v x := by
  obtain ⟨va, vb, e, h1, h2⟩ := h
  exact ⟨va, vb, e, h1.keep hb, h2.keep hb⟩
end Go.Proofs.YtlkdmpfifpkpaaaGreatDoor
namespace Go.Proofs.YtlkdmpfifpkpaaaGreatDoor
open Go.RowKit

/-- a row of blocks of its own (block g), or nil -/
def RowB (w : World) (v : Value) (n : Nat) (f : Nat → Value) (g : Option Nat) : Prop :=
  (∃ b c, g = some b ∧ v = .slice (some ⟨b, 0, none⟩) n c ∧ Own w b c n 3 76 f) ∨ (g = none ∧ n = 0 ∧ v = .slice none 0 0)
theorem RowB.below {w w' : World} {v : Value} {n : Nat} {f : Nat → Value} {g : Option Nat} (h : RowB w v n f g) (hb : Below w.heap.size w w') : RowB w' v n f g := by
  rcases h with ⟨b, c, e, e2, h⟩ | h
  · exact .inl ⟨b, c, e, e2, h.below hb h.lt⟩
  · exact .inr h
theorem RowB.grown {w w' : World} {v : Value} {n : Nat} {f : Nat → Value} {g row : Option Nat} (h : RowB w v n f g) (hb : w.grownBy w' row) (hne : ∀ b, g = some b → row ≠ some b) : RowB w' v n f g := by
  rcases h with ⟨b, c, e, e2, h⟩ | h
  · exact .inl ⟨b, c, e, e2, h.kept hb (fun q => hne b e q.symm)⟩
  · exact .inr h
theorem RowB.reads {w : World} {v : Value} {n : Nat} {N : Nat → Int} {I O : Nat → Bool} {g : Option Nat} (h : RowB w v n (bkF N I O) g) : BL w v n N I O := by
  rcases h with ⟨b, c, e, e2, h⟩ | ⟨e, e2, e3⟩
  · exact .inl ⟨b, 0, c, e2, BkC.of_own h⟩
  · exact .inr ⟨e2, _, _, e3⟩
end Go.Proofs.YtlkdmpfifpkpaaaGreatDoor
namespace Go.Proofs.YtlkdmpfifpkpaaaGreatDoor
open Go.RowKit

theorem RowB.lt {w : World} {v : Value} {n : Nat} {f : Nat → Value} {g : Option Nat} (h : RowB w v n f g) : ∀ b, g = some b → b < w.heap.size := fun b e => by
  rcases h with ⟨b', c, e1, e2, h⟩ | ⟨e1, _⟩
  · rw [e1] at e; cases e; exact h.lt
  · rw [e1] at e; cases e
/-- a line in a box, its rows its own -/
structure LB (w : World) (b : Nat) (va vb : Value) (y : Ln) (g1 g2 : Option Nat) : Prop where
  bx : Bx w b 31 #[va, vb]
  rb : RowB w va y.n (bkF y.N y.I y.O) g1
  ri : RowI w vb y.m y.T g2
  nb1 : ∀ c, g1 = some c → b ≠ c
  nb2 : ∀ c, g2 = some c → b ≠ c
  n12 : ∀ c, g1 = some c → g2 ≠ some c
theorem LB.below {w w' : World} {b : Nat} {va vb : Value} {y : Ln} {g1 g2 : Option Nat} (h : LB w b va vb y g1 g2) (hb : Below w.heap.size w w') : LB w' b va vb y g1 g2 :=
  ⟨h.bx.below hb h.bx.lt, h.rb.below hb, h.ri.below hb, h.nb1, h.nb2, h.n12⟩
theorem LB.grown {w w' : World} {b : Nat} {va vb : Value} {y : Ln} {g1 g2 row : Option Nat} (h : LB w b va vb y g1 g2) (hb : w.grownBy w' row) (hn : ∀ c, row = some c → b ≠ c ∧ g1 ≠ some c ∧ g2 ≠ some c) : LB w' b va vb y g1 g2 :=
  ⟨h.bx.grown hb (fun e => (hn b e).1 rfl), h.rb.grown hb (fun c e e2 => (hn c e2).2.1 e), h.ri.grown hb (fun c e e2 => (hn c e2).2.2 e), h.nb1, h.nb2, h.n12⟩
theorem LB.reads {w : World} {b : Nat} {va vb : Value} {y : Ln} {g1 g2 : Option Nat} (h : LB w b va vb y g1 g2) : LnV w (.agg #[va, vb]) y := ⟨va, vb, rfl, h.rb.reads, h.ri.reads⟩
/-- the blocks of a line lie from z on -/
def Fr2 (z : Nat) (w : World) (g1 g2 : Option Nat) : Prop := (∀ c, g1 = some c → z ≤ c ∧ c < w.heap.size) ∧ (∀ c, g2 = some c → z ≤ c ∧ c < w.heap.size)
/-- what a call hands back as a line -/
def LnN (z : Nat) (w : World) (va vb : Value) (y : Ln) (g1 g2 : Option Nat) : Prop :=
  RowB w va y.n (bkF y.N y.I y.O) g1 ∧ RowI w vb y.m y.T g2 ∧ (∀ c, g1 = some c → g2 ≠ some c) ∧ Fr2 z w g1 g2
theorem LnN.reads {z : Nat} {w : World} {va vb : Value} {y : Ln} {g1 g2 : Option Nat} (h : LnN z w va vb y g1 g2) : LnV w (.agg #[va, vb]) y := ⟨va, vb, rfl, h.1.reads, h.2.1.reads⟩
theorem LnO.new {z : Nat} {w : World} {v : Value} {y : Ln} (h : LnO z w v y) : ∃ va vb g1 g2, v = .agg #[va, vb] ∧ LnN z w va vb y g1 g2 := by
  obtain ⟨g1, c1, g2, c2, e, h1, h2, h3, h4, h5⟩ := h
  exact ⟨_, _, some g1, some g2, e, .inl ⟨g1, c1, rfl, rfl, h1⟩, .inl ⟨g2, c2, rfl, rfl, h2⟩, fun c e e2 => by cases e; cases e2; exact h3 rfl, fun c e => by cases e; exact ⟨h4, h1.lt⟩, fun c e => by cases e; exact ⟨h5, h2.lt⟩⟩
end Go.Proofs.YtlkdmpfifpkpaaaGreatDoor
namespace Go.Proofs.YtlkdmpfifpkpaaaGreatDoor
open Go.RowKit

/-- a row of the moves ys of its own -/
def OwnMs (w : World) (g cap : Nat) (ys : List (Int × ByteArray)) : Prop := Own w g cap ys.length 2 94 (mvF (mvM ys) (mvS ys))
theorem mvM_snoc (ys : List (Int × ByteArray)) (y : Int × ByteArray) {i : Nat} (hi : i < ys.length) : mvM ys i = mvM (ys ++ [y]) i ∧ mvS ys i = mvS (ys ++ [y]) i := by
  unfold mvM mvS
  rw [List.getElem?_append_left hi]
  exact ⟨rfl, rfl⟩
theorem OwnMs.ext {w : World} {g cap : Nat} {ys : List (Int × ByteArray)} (h : OwnMs w g cap ys) (y : Int × ByteArray) : Own w g cap ys.length 2 94 (mvF (mvM (ys ++ [y])) (mvS (ys ++ [y]))) :=
  Own.congr h (mvF_congr (fun _ hk => (mvM_snoc ys y hk).1) (fun _ hk => (mvM_snoc ys y hk).2))
theorem mvF_new (ys : List (Int × ByteArray)) (y : Int × ByteArray) : ∀ j, j < 2 → [Value.int .i64 y.1, .string y.2][j]? = some (mvF (mvM (ys ++ [y])) (mvS (ys ++ [y])) (ys.length * 2 + j)) := fun j hj => by
  match j, hj with
  | 0, _ => unfold mvF; rw [if_pos (by omega), show (ys.length * 2 + 0) / 2 = ys.length by omega]; simp [mvM]
  | 1, _ => unfold mvF; rw [if_neg (by omega), show (ys.length * 2 + 1) / 2 = ys.length by omega]; simp [mvS]
end Go.Proofs.YtlkdmpfifpkpaaaGreatDoor
namespace Go.Proofs.YtlkdmpfifpkpaaaGreatDoor
open Go.RowKit

theorem fst_cnt (f : Nat → Int) (p : Int) : ∀ m, fstA f p m < m ↔ ¬ cntA f p m = 0
  | 0 => by simp [cntA]
  | m + 1 => by
    have ih := fst_cnt f p m
    have hle := fstA_le f p m
    simp only [fstA, cntA]
    by_cases h : fstA f p m < m
    · rw [if_pos h]
      have := ih.1 h
      omega
    · rw [if_neg h]
      have h0 : cntA f p m = 0 := Classical.byContradiction (fun q => h (ih.2 q))
      rw [h0]
      by_cases e : f m = p
      · rw [if_pos e, if_pos e]; omega
      · rw [if_neg e, if_neg e]; omega
theorem bt_chr (c : UInt8) : bt (chr c) 0 = (c.toNat : Int) := by
  have h : 0 < (chr c).size := by show 0 < 1; omega
  rw [← bt_at h]
  rfl
theorem mvJ_chr (x : Ln) (k : Nat) (c : UInt8) : mvJ x k (chr c) = nx (stI (x.N k) (x.I k) (x.O k)) (c.toNat : Int) := by
  show bsI (x.N k) (x.I k) (x.O k) (chr c) = _
  unfold bsI
  rw [if_pos (show (chr c).size = 1 from rfl), bt_chr]
theorem chr_eq (c d : UInt8) : (chr c = chr d) ↔ c = d := by
  constructor
  · intro h
    have := congrArg (fun b : ByteArray => b.data) h
    simpa [chr] using this
  · intro h; rw [h]
theorem mvOk_chr {x : Ln} (hv : vldL x = true) {k : Nat} (hk : k < x.n) (c : UInt8) : mvOk x k (chr c) = (!mvSk x k c && decide (nx (stI (x.N k) (x.I k) (x.O k)) (c.toNat : Int) < 5)) := by
  obtain ⟨_, _, _, _, _, hcn⟩ := vldL_true hv
  have hin : inB (k : Int) 0 ((x.n : Int) - 1) = true := inB_true.2 (by omega)
  unfold mvOk
  rw [hin, mvJ_chr, Bool.true_and]
  by_cases h1 : c = 101
  · subst h1
    have he : eB (chr 101) = true := decide_eq_true rfl
    have hp : plI (k : Int) (chr 101) = 2 * k := if_pos he
    rw [he, hp, Bool.true_or, Bool.not_true, Bool.false_or]
    unfold mvSk
    have hd : decide (fstA x.T (2 * (k : Int)) x.m < x.m) = !decide (cntA x.T (2 * (k : Int)) x.m = 0) := by
      by_cases h : cntA x.T (2 * (k : Int)) x.m = 0
      · rw [decide_eq_true h, decide_eq_false (fun q => (fst_cnt _ _ _).1 q h)]; rfl
      · rw [decide_eq_false h, decide_eq_true ((fst_cnt _ _ _).2 h)]; rfl
    rw [hd, decide_eq_true rfl, Bool.true_and, Bool.and_comm]
  · have he : eB (chr c) = false := decide_eq_false (fun h => h1 ((chr_eq c 101).1 h))
    have hs : mvSk x k c = false := by unfold mvSk; rw [decide_eq_false h1]; rfl
    rw [he, hs]
    by_cases h2 : c = 108
    · subst h2
      have hl : lB (chr 108) = true := decide_eq_true rfl
      have hp : plI (k : Int) (chr 108) = 2 * k + 1 := by unfold plI; rw [if_neg (by simp [he]), if_pos hl]
      rw [hl, hp]
      by_cases h5 : nx (stI (x.N k) (x.I k) (x.O k)) ((108 : UInt8).toNat : Int) < 5
      · rw [decide_eq_true h5]
        have hst : stI (x.N k) (x.I k) (x.O k) = 3 := by
          revert h5
          generalize stI (x.N k) (x.I k) (x.O k) = s
          intro h5
          match s with
          | 0 => revert h5; decide
          | 1 => revert h5; decide
          | 2 => revert h5; decide
          | 3 => rfl
          | 4 => revert h5; decide
          | s + 5 => revert h5; simp [nx]
        have hI : x.I k = true := (stI_B hst (by omega)).2.1
        have hc := hcn k hk
        unfold cnOk at hc
        rw [hI] at hc
        have hc1 : cntA x.T (2 * (k : Int) + 1) x.m = 1 := by simpa using hc
        have hf : fstA x.T (2 * (k : Int) + 1) x.m < x.m := (fst_cnt _ _ _).2 (by omega)
        rw [decide_eq_true hf]
        rfl
      · rw [decide_eq_false h5]
        rfl
    · have hl : lB (chr c) = false := decide_eq_false (fun h => h2 ((chr_eq c 108).1 h))
      rw [hl]
      simp
theorem lmL_len (x : Ln) : (lmL x).length ≤ 35 := by
  unfold lmL
  split
  · rename_i h
    have h1 := (vldL_true h).2.1
    have h2 := mvU_len x x.n
    unfold mvsL
    omega
  · simp
end Go.Proofs.YtlkdmpfifpkpaaaGreatDoor
namespace Go.Proofs.YtlkdmpfifpkpaaaGreatDoor
open Go.RowKit

theorem stB_i {j : Nat} (h : j < 5) : (stB j).i = decide (j = 3) := by
  match j, h with
  | 0, _ => rfl
  | 1, _ => rfl
  | 2, _ => rfl
  | 3, _ => rfl
  | 4, _ => rfl
theorem nx_cases {s : Nat} {c : Int} (h : nx s c < 5) :
    (s = 0 ∧ c = 111 ∧ nx s c = 1) ∨ (s = 1 ∧ c = 114 ∧ nx s c = 0) ∨ (s = 1 ∧ c = 97 ∧ nx s c = 2) ∨ (s = 2 ∧ c = 99 ∧ nx s c = 0) ∨ (s = 2 ∧ c = 101 ∧ nx s c = 3) ∨ (s = 3 ∧ c = 108 ∧ nx s c = 4) ∨ (s = 4 ∧ c = 102 ∧ nx s c = 0) := by
  match s with
  | 0 => simp only [nx] at h ⊢; split at h <;> rename_i e <;> simp [e] at h ⊢
  | 1 => simp only [nx] at h ⊢
         by_cases e : c = 114
         · simp [e]
         · by_cases e2 : c = 97
           · simp [e2]
           · simp [e, e2] at h
  | 2 => simp only [nx] at h ⊢
         by_cases e : c = 99
         · simp [e]
         · by_cases e2 : c = 101
           · simp [e2]
           · simp [e, e2] at h
  | 3 => simp only [nx] at h ⊢; split at h <;> rename_i e <;> simp [e] at h ⊢
  | 4 => simp only [nx] at h ⊢; split at h <;> rename_i e <;> simp [e] at h ⊢
  | s + 5 => simp [nx] at h
theorem chr_of {l : ByteArray} (h : l.size = 1) : ∃ c, l = chr c := by
  obtain ⟨d⟩ := l
  have h1 : d.size = 1 := h
  obtain ⟨l⟩ := d
  have h2 : l.length = 1 := by simpa using h1
  match l, h2 with
  | [c], _ => exact ⟨c, rfl⟩
theorem bsI_sz {n : Int} {i o : Bool} {l : ByteArray} (h : bsI n i o l < 5) : l.size = 1 := by
  unfold bsI at h
  split at h
  · assumption
  · omega
/-- the state of a section -/
def sk (x : Ln) (k : Nat) : Nat := stI (x.N k) (x.I k) (x.O k)
theorem sk_lt {x : Ln} (hv : vldL x = true) {k : Nat} (hk : k < x.n) : sk x k < 5 := by
  have h := (vldL_true hv).2.2.2.1 k hk
  exact of_decide_eq_true h
theorem sk_I {x : Ln} (hv : vldL x = true) {k : Nat} (hk : k < x.n) : x.I k = decide (sk x k = 3) := by
  have h5 := sk_lt hv hk
  have h := (stI_B (n := x.N k) (i := x.I k) (o := x.O k) rfl h5).2.1
  rw [h]
  exact stB_i h5
theorem sk_N {x : Ln} (hv : vldL x = true) {k : Nat} (hk : k < x.n) : x.N k = (stB (sk x k)).n ∧ x.O k = (stB (sk x k)).o :=
  ⟨(stI_B rfl (sk_lt hv hk)).1, (stI_B rfl (sk_lt hv hk)).2.2⟩
/-- what a move that can be done is -/
theorem mv_is {x : Ln} {s : Int} {l : ByteArray} (ho : mvOk x s l = true) : ∃ (k : Nat) (c : UInt8), s = k ∧ k < x.n ∧ l = chr c ∧ mvJ x s l = nx (sk x k) c.toNat ∧ mvJ x s l < 5 ∧ ((eB l || lB l) = true → fstA x.T (plI s l) x.m < x.m) := by
  simp only [mvOk, Bool.and_eq_true, inB_true, decide_eq_true_eq, Bool.or_eq_true, Bool.not_eq_true'] at ho
  obtain ⟨⟨h0, h1⟩, h2, h3⟩ := ho
  obtain ⟨k, rfl⟩ := Int.eq_ofNat_of_zero_le h0
  obtain ⟨c, rfl⟩ := chr_of (bsI_sz (n := x.N k) (i := x.I k) (o := x.O k) h2)
  refine ⟨k, c, rfl, by omega, rfl, mvJ_chr x k c, h2, fun h => ?_⟩
  rcases h3 with h3 | h3
  · rw [h3] at h; cases h
  · exact h3
theorem cntA_upd_out {f : Nat → Int} (i : Nat) {v q : Int} : ∀ m, m ≤ i → cntA (upd f i v) q m = cntA f q m
  | 0, _ => rfl
  | m + 1, h => by
    simp only [cntA]
    rw [cntA_upd_out i m (by omega), show upd f i v m = f m from if_neg (show ¬ m = i by omega)]
theorem cntA_upd {f : Nat → Int} {i : Nat} {v q : Int} : ∀ m, i < m → cntA (upd f i v) q m + (if f i = q then 1 else 0) = cntA f q m + (if v = q then 1 else 0)
  | 0, h => by omega
  | m + 1, h => by
    simp only [cntA]
    by_cases e : i = m
    · subst e
      rw [cntA_upd_out i i (Nat.le_refl _), show upd f i v i = v from if_pos rfl]
      omega
    · have ih := cntA_upd (f := f) (i := i) (v := v) (q := q) m (by omega)
      rw [show upd f i v m = f m from if_neg (fun h => e h.symm)]
      omega
theorem leA_upd_out {f : Nat → Int} (i : Nat) {v q : Int} : ∀ m, m ≤ i → leA (upd f i v) q m = leA f q m
  | 0, _ => rfl
  | m + 1, h => by
    simp only [leA]
    rw [leA_upd_out i m (by omega), show upd f i v m = f m from if_neg (show ¬ m = i by omega)]
theorem leA_upd {f : Nat → Int} {i : Nat} {v q : Int} : ∀ m, i < m → leA (upd f i v) q m + (if f i ≤ q then 1 else 0) = leA f q m + (if v ≤ q then 1 else 0)
  | 0, h => by omega
  | m + 1, h => by
    simp only [leA]
    by_cases e : i = m
    · subst e
      rw [leA_upd_out i i (Nat.le_refl _), show upd f i v i = v from if_pos rfl]
      omega
    · have ih := leA_upd (f := f) (i := i) (v := v) (q := q) m (by omega)
      rw [show upd f i v m = f m from if_neg (fun h => e h.symm)]
      omega
theorem fstA_before (f : Nat → Int) (p : Int) : ∀ m j, j < fstA f p m → f j ≠ p
  | 0, j, h => by simp [fstA] at h
  | m + 1, j, h => by
    have ih := fstA_before f p m j
    have hle := fstA_le f p m
    simp only [fstA] at h
    split at h
    · exact ih h
    · rename_i hn
      have e : fstA f p m = m := by omega
      split at h
      · exact ih (by omega)
      · rename_i h2
        by_cases ej : j = m
        · rw [ej]; exact h2
        · exact ih (by omega)
theorem trOk_true {x : Ln} {i : Nat} : trOk x i = true ↔ (0 ≤ x.T i ∧ x.T i ≤ 2 * (x.n : Int)) ∧ (i = 0 ∨ x.T i ≤ x.T (i - 1)) := by
  simp [trOk, inB_true]
theorem plI_e (s : Int) : plI s (chr 101) = 2 * s := if_pos (decide_eq_true rfl)
theorem plI_l (s : Int) : plI s (chr 108) = 2 * s + 1 := by
  unfold plI
  rw [if_neg (by simp [eB, chr_eq]), if_pos (show lB (chr 108) = true from decide_eq_true rfl)]
theorem el_no {c : UInt8} (h1 : c ≠ 101) (h2 : c ≠ 108) : (eB (chr c) || lB (chr c)) = false := by
  rw [show eB (chr c) = false from decide_eq_false (fun h => h1 ((chr_eq c 101).1 h)), show lB (chr c) = false from decide_eq_false (fun h => h2 ((chr_eq c 108).1 h))]
  rfl
theorem el_e : (eB (chr 101) || lB (chr 101)) = true := by
  rw [show eB (chr 101) = true from decide_eq_true rfl]; rfl
theorem el_l : (eB (chr 108) || lB (chr 108)) = true := by
  rw [show lB (chr 108) = true from decide_eq_true rfl, Bool.or_true]
/-- a move by its kind: its section k, the state behind it J; no train turns, or train i goes from p to p + 1 -/
theorem mv_kind {x : Ln} {s : Int} {l : ByteArray} (ho : mvOk x s l = true) : ∃ k : Nat, s = k ∧ k < x.n ∧ mvJ x s l < 5 ∧
    ((mvTo x s l).T = x.T ∧ sk x k ≠ 3 ∧ mvJ x s l ≠ 3 ∨
     (∃ i, i < x.m ∧ x.T i = 2 * k ∧ (∀ j, j < i → x.T j ≠ 2 * k) ∧ (mvTo x s l).T = upd x.T i (2 * k + 1) ∧ sk x k = 2 ∧ mvJ x s l = 3) ∨
     (∃ i, i < x.m ∧ x.T i = 2 * k + 1 ∧ (∀ j, j < i → x.T j ≠ 2 * k + 1) ∧ (mvTo x s l).T = upd x.T i (2 * k + 1 + 1) ∧ sk x k = 3 ∧ mvJ x s l = 4)) := by
  obtain ⟨k, c, rfl, hk, rfl, hJ, hJ5, hf⟩ := mv_is ho
  refine ⟨k, rfl, hk, hJ5, ?_⟩
  rw [hJ] at hJ5
  have hc : ∀ d : UInt8, ((c.toNat : Nat) : Int) = (d.toNat : Int) → c = d := fun d h => UInt8.toNat_inj.1 (by omega)
  by_cases h1 : c = 101
  · subst h1
    right; left
    have hi := hf el_e
    rw [plI_e] at hi
    refine ⟨_, hi, fstA_at _ _ _ hi, fstA_before _ _ _, ?_, ?_⟩
    · unfold mvTo
      simp only [el_e, if_true, plI_e]
    · rcases nx_cases hJ5 with h | h | h | h | h | h | h <;> (obtain ⟨a, b, d⟩ := h; try (exfalso; revert b; decide))
      exact ⟨a, by rw [hJ, d]⟩
  by_cases h2 : c = 108
  · subst h2
    right; right
    have hi := hf el_l
    rw [plI_l] at hi
    refine ⟨_, hi, fstA_at _ _ _ hi, fstA_before _ _ _, ?_, ?_⟩
    · unfold mvTo
      simp only [el_l, if_true, plI_l]
    · rcases nx_cases hJ5 with h | h | h | h | h | h | h <;> (obtain ⟨a, b, d⟩ := h; try (exfalso; revert b; decide))
      exact ⟨a, by rw [hJ, d]⟩
  · left
    refine ⟨?_, ?_⟩
    · unfold mvTo
      simp only [el_no h1 h2, Bool.false_eq_true, if_false]
    · rw [hJ]
      rcases nx_cases hJ5 with h | h | h | h | h | h | h <;> obtain ⟨a, b, d⟩ := h
      · rw [a] at d ⊢; omega
      · rw [a] at d ⊢; omega
      · rw [a] at d ⊢; omega
      · rw [a] at d ⊢; omega
      · exact absurd (hc 101 b) h1
      · exact absurd (hc 108 b) h2
      · rw [a] at d ⊢; omega
end Go.Proofs.YtlkdmpfifpkpaaaGreatDoor
namespace Go.Proofs.YtlkdmpfifpkpaaaGreatDoor
open Go.RowKit

theorem mvTo_N (x : Ln) (k : Nat) (l : ByteArray) : (mvTo x k l).N = upd x.N k (stB (mvJ x k l)).n ∧ (mvTo x k l).I = upd x.I k (stB (mvJ x k l)).i ∧ (mvTo x k l).O = upd x.O k (stB (mvJ x k l)).o := ⟨rfl, rfl, rfl⟩
theorem sk_mv {x : Ln} {k : Nat} {l : ByteArray} (hJ : mvJ x k l < 5) (q : Nat) : sk (mvTo x k l) q = if q = k then mvJ x k l else sk x q := by
  obtain ⟨h1, h2, h3⟩ := mvTo_N x k l
  unfold sk
  rw [h1, h2, h3]
  unfold upd
  by_cases e : q = k
  · simp only [e, if_true]
    exact stI_stB hJ
  · simp only [e, if_false]
theorem I_mv {x : Ln} {k : Nat} {l : ByteArray} (hJ : mvJ x k l < 5) (q : Nat) : (mvTo x k l).I q = if q = k then decide (mvJ x k l = 3) else x.I q := by
  rw [(mvTo_N x k l).2.1]
  unfold upd
  by_cases e : q = k
  · simp only [e, if_true]
    exact stB_i hJ
  · simp only [e, if_false]
theorem cnOk_true {x : Ln} {k : Nat} : cnOk x k = true ↔ cntA x.T (2 * (k : Int) + 1) x.m = if x.I k = true then 1 else 0 := by
  simp [cnOk]
theorem vld_mv {x : Ln} {s : Int} {l : ByteArray} (hv : vldL x = true) (ho : mvOk x s l = true) : vldL (mvTo x s l) = true := by
  obtain ⟨k, rfl, hk, hJ, hkind⟩ := mv_kind ho
  obtain ⟨hn1, hn5, hm5, hpos, htr, hcn⟩ := vldL_true hv
  have hIk := sk_I hv hk
  refine vldL_of (inB_true.2 ⟨by show (1 : Int) ≤ (x.n : Int); omega, by show (x.n : Int) ≤ 5; omega⟩) hm5 ?_ ?_ ?_
  · intro q hq
    show decide (sk (mvTo x k l) q < 5) = true
    rw [sk_mv hJ]
    split
    · exact decide_eq_true hJ
    · exact decide_eq_true (sk_lt hv hq)
  · intro i hi
    have hi' : i < x.m := hi
    have h0 := trOk_true.1 (htr i hi')
    rw [trOk_true]
    show (0 ≤ (mvTo x k l).T i ∧ (mvTo x k l).T i ≤ 2 * (x.n : Int)) ∧ (i = 0 ∨ (mvTo x k l).T i ≤ (mvTo x k l).T (i - 1))
    rcases hkind with ⟨hT, _⟩ | ⟨j, hj, hTj, hb, hT, _⟩ | ⟨j, hj, hTj, hb, hT, _⟩
    · rw [hT]; exact h0
    · rw [hT]
      unfold upd
      by_cases e : i = j
      · subst e
        rw [if_pos rfl]
        refine ⟨by omega, ?_⟩
        rcases Nat.eq_zero_or_pos i with z | z
        · exact .inl z
        · right
          rw [if_neg (by omega)]
          have h1 := hb (i - 1) (by omega)
          have h2 := h0.2
          omega
      · rw [if_neg e]
        refine ⟨h0.1, ?_⟩
        rcases h0.2 with z | z
        · exact .inl z
        · right
          split
          · rename_i e2
            rw [e2, hTj] at z
            omega
          · exact z
    · rw [hT]
      unfold upd
      by_cases e : i = j
      · subst e
        rw [if_pos rfl]
        refine ⟨by omega, ?_⟩
        rcases Nat.eq_zero_or_pos i with z | z
        · exact .inl z
        · right
          rw [if_neg (by omega)]
          have h1 := hb (i - 1) (by omega)
          have h2 := h0.2
          omega
      · rw [if_neg e]
        refine ⟨h0.1, ?_⟩
        rcases h0.2 with z | z
        · exact .inl z
        · right
          split
          · rename_i e2
            rw [e2, hTj] at z
            omega
          · exact z
  · intro q hq
    have hq' : q < x.n := hq
    have h0 := cnOk_true.1 (hcn q hq')
    rw [cnOk_true, I_mv hJ]
    show cntA (mvTo x k l).T (2 * (q : Int) + 1) x.m = _
    rcases hkind with ⟨hT, hs3, hJ3⟩ | ⟨j, hj, hTj, hb, hT, hs, hJe⟩ | ⟨j, hj, hTj, hb, hT, hs, hJe⟩
    · rw [hT, h0]
      by_cases e : q = k
      · subst e
        rw [hIk, if_pos rfl]
        simp [hs3, hJ3]
      · rw [if_neg e]
    · rw [hT]
      have hu := cntA_upd (f := x.T) (v := 2 * (k : Int) + 1) (q := 2 * (q : Int) + 1) x.m hj
      rw [hTj, if_neg (show ¬ 2 * (k : Int) = 2 * (q : Int) + 1 by omega), h0] at hu
      by_cases e : q = k
      · subst e
        rw [hIk] at hu
        rw [if_pos rfl]
        simp [hs, hJe] at hu ⊢
        omega
      · rw [if_neg e]
        rw [if_neg (show ¬ 2 * (k : Int) + 1 = 2 * (q : Int) + 1 by omega)] at hu
        omega
    · rw [hT]
      have hu := cntA_upd (f := x.T) (v := 2 * (k : Int) + 1 + 1) (q := 2 * (q : Int) + 1) x.m hj
      rw [hTj, h0] at hu
      by_cases e : q = k
      · subst e
        rw [hIk, if_neg (show ¬ 2 * (q : Int) + 1 + 1 = 2 * (q : Int) + 1 by omega)] at hu
        rw [if_pos rfl]
        simp [hs, hJe] at hu ⊢
        omega
      · rw [if_neg e]
        rw [if_neg (show ¬ 2 * (k : Int) + 1 = 2 * (q : Int) + 1 by omega), if_neg (show ¬ 2 * (k : Int) + 1 + 1 = 2 * (q : Int) + 1 by omega)] at hu
        omega
/-- the moves that a section in a state still needs, so many trains not yet through -/
def lefK (s t : Nat) : Int :=
  match s with
  | 0 => 5 * t
  | 1 => if 0 < t then 5 * t - 1 else 1
  | 2 => if 0 < t then 5 * t - 2 else 1
  | 3 => 5 * t + 2
  | _ => 5 * t + 1
theorem lefV_stB {j : Nat} (h : j < 5) (t : Nat) : lefV (stB j).n (stB j).i (stB j).o t = lefK j t := by
  match j, h with
  | 0, _ => simp [lefV, stB, lefK]
  | 1, _ => by_cases h : 0 < t
            · simp [lefV, stB, lefK, h]
            · obtain rfl : t = 0 := by omega
              simp [lefV, stB, lefK]
  | 2, _ => by_cases h : 0 < t
            · simp [lefV, stB, lefK, h]
            · obtain rfl : t = 0 := by omega
              simp [lefV, stB, lefK]
  | 3, _ => simp [lefV, stB, lefK]
  | 4, _ => simp [lefV, stB, lefK]
/-- the trains that have not yet come into a section -/
def tk (x : Ln) (k : Nat) : Nat := leA x.T (2 * k) x.m
theorem lef_sk {x : Ln} (hv : vldL x = true) {k : Nat} (hk : k < x.n) : lefV (x.N k) (x.I k) (x.O k) (leA x.T (2 * k) x.m) = lefK (sk x k) (tk x k) := by
  have h5 := sk_lt hv hk
  obtain ⟨h1, h2, h3⟩ := stI_B (n := x.N k) (i := x.I k) (o := x.O k) rfl h5
  rw [← lefV_stB h5]
  show lefV _ _ _ _ = lefV (stB (stI (x.N k) (x.I k) (x.O k))).n (stB (stI (x.N k) (x.I k) (x.O k))).i (stB (stI (x.N k) (x.I k) (x.O k))).o _
  rw [← h1, ← h2, ← h3]
  rfl
def lefT (x : Ln) : Nat → Int
  | 0 => 0
  | k + 1 => lefT x k + lefK (sk x k) (tk x k)
theorem lefS_T {x : Ln} (hv : vldL x = true) : ∀ k, k ≤ x.n → lefS x k = lefT x k
  | 0, _ => rfl
  | k + 1, h => by
    simp only [lefS, lefT]
    rw [lefS_T hv k (by omega), lef_sk hv (by omega)]
theorem lefK_pos (s t : Nat) : 0 ≤ lefK s t := by
  unfold lefK
  split <;> (try split) <;> omega
theorem tk_mv {x : Ln} {k i : Nat} {l : ByteArray} {p : Int} (hi : i < x.m) (hp : x.T i = p) (hT : (mvTo x k l).T = upd x.T i (p + 1)) (q : Nat) : tk (mvTo x k l) q + (if p = 2 * q then 1 else 0) = tk x q := by
  unfold tk
  rw [hT]
  show leA (upd x.T i (p + 1)) (2 * (q : Int)) x.m + _ = _
  have h := leA_upd (f := x.T) (v := p + 1) (q := 2 * (q : Int)) x.m hi
  rw [hp] at h
  by_cases e : p = 2 * (q : Int)
  · rw [if_pos e]
    rw [if_pos (by omega), if_neg (by omega)] at h
    omega
  · rw [if_neg e]
    by_cases e2 : p ≤ 2 * (q : Int)
    · rw [if_pos e2, if_pos (by omega)] at h
      omega
    · rw [if_neg e2, if_neg (by omega)] at h
      omega
end Go.Proofs.YtlkdmpfifpkpaaaGreatDoor
namespace Go.Proofs.YtlkdmpfifpkpaaaGreatDoor
open Go.RowKit

theorem lefT_one {x y : Ln} {k : Nat} : ∀ n, k < n → (∀ q, q < n → q ≠ k → lefK (sk y q) (tk y q) = lefK (sk x q) (tk x q)) → lefT y n + lefK (sk x k) (tk x k) = lefT x n + lefK (sk y k) (tk y k)
  | 0, h, _ => by omega
  | n + 1, h, hq => by
    simp only [lefT]
    by_cases e : k = n
    · subst e
      have hs : ∀ m, m ≤ k → lefT y m = lefT x m := by
        intro m
        induction m with
        | zero => intro _; rfl
        | succ m ih =>
          intro hm
          simp only [lefT]
          rw [ih (by omega), hq m (by omega) (by omega)]
      rw [hs k (Nat.le_refl _)]
      omega
    · have ih := lefT_one (x := x) (y := y) (k := k) n (by omega) (fun q h1 h2 => hq q (by omega) h2)
      have h1 := hq n (by omega) (fun h => e h.symm)
      omega
/-- what a move does to the moves that are left -/
theorem lefT_mv {x : Ln} {k : Nat} {l : ByteArray} (ho : mvOk x k l = true) (hk : k < x.n) : lefT (mvTo x k l) x.n + lefK (sk x k) (tk x k) = lefT x x.n + lefK (mvJ x k l) (tk (mvTo x k l) k) ∧ (tk (mvTo x k l) k = tk x k ∧ ¬ (sk x k = 2 ∧ mvJ x k l = 3) ∨ tk (mvTo x k l) k + 1 = tk x k ∧ sk x k = 2 ∧ mvJ x k l = 3) := by
  obtain ⟨k', e, _, hJ, hkind⟩ := mv_kind ho
  obtain rfl : k = k' := by omega
  have hsk : sk (mvTo x k l) k = mvJ x k l := by rw [sk_mv hJ, if_pos rfl]
  have hT : ∀ q, q ≠ k → tk (mvTo x k l) q = tk x q := by
    intro q hq
    rcases hkind with ⟨hT, _⟩ | ⟨i, hi, hp, _, hT, _⟩ | ⟨i, hi, hp, _, hT, _⟩
    · unfold tk; rw [hT]; rfl
    · have h := tk_mv hi hp hT q
      rw [if_neg (by omega)] at h
      omega
    · have h := tk_mv hi hp hT q
      rw [if_neg (by omega)] at h
      omega
  constructor
  · rw [← hsk]
    refine lefT_one x.n hk (fun q h1 h2 => ?_)
    rw [sk_mv hJ, if_neg h2, hT q h2]
  · rcases hkind with ⟨hT, h3, h4⟩ | ⟨i, hi, hp, _, hT, h3, h4⟩ | ⟨i, hi, hp, _, hT, h3, h4⟩
    · left
      exact ⟨by unfold tk; rw [hT]; rfl, fun h => h4 h.2⟩
    · right
      have h := tk_mv hi hp hT k
      rw [if_pos rfl] at h
      exact ⟨h, h3, h4⟩
    · left
      have h := tk_mv hi hp hT k
      rw [if_neg (by omega)] at h
      exact ⟨by omega, fun h => by omega⟩
theorem mem_mvs {x : Ln} {k : Nat} {c : UInt8} (hk : k < x.n) (hc : c ∈ eL) (hn : nx (sk x k) c.toNat < 5) (hs : mvSk x k c = false) : ((k : Int), chr c) ∈ mvsL x := by
  unfold mvsL mvU
  rw [List.mem_flatMap]
  refine ⟨k, List.mem_range.2 hk, ?_⟩
  unfold mvK mvI
  rw [List.mem_map]
  refine ⟨c, ?_, rfl⟩
  rw [List.mem_filter]
  refine ⟨?_, by rw [hs]; rfl⟩
  rw [List.take_length]
  unfold mvLt nxT
  rw [List.mem_filter]
  exact ⟨by simpa [eL] using hc, decide_eq_true hn⟩
theorem leA_ex {f : Nat → Int} {q : Int} : ∀ m, 0 < leA f q m → ∃ i, i < m ∧ f i ≤ q
  | 0, h => by simp [leA] at h
  | m + 1, h => by
    simp only [leA] at h
    by_cases e : f m ≤ q
    · exact ⟨m, by omega, e⟩
    · rw [if_neg e] at h
      obtain ⟨i, h1, h2⟩ := leA_ex m h
      exact ⟨i, by omega, h2⟩
theorem leA_pos {f : Nat → Int} {q : Int} {i : Nat} (hf : f i ≤ q) : ∀ m, i < m → 0 < leA f q m
  | 0, h => by omega
  | m + 1, h => by
    simp only [leA]
    by_cases e : i = m
    · subst e; rw [if_pos hf]; omega
    · have := leA_pos hf m (by omega); omega
theorem cntA_pos {f : Nat → Int} {p : Int} {i : Nat} (hf : f i = p) : ∀ m, i < m → 0 < cntA f p m
  | 0, h => by omega
  | m + 1, h => by
    simp only [cntA]
    by_cases e : i = m
    · subst e; rw [if_pos hf]; omega
    · have := cntA_pos hf m (by omega); omega
theorem lefK_t {s t : Nat} (ht : 0 < t) : 0 < lefK s t := by
  unfold lefK
  split
  · omega
  · rw [if_pos ht]; omega
  · rw [if_pos ht]; omega
  · omega
  · omega
theorem lefT_ex {x : Ln} : ∀ n, 0 < lefT x n → ∃ k, k < n ∧ 0 < lefK (sk x k) (tk x k)
  | 0, h => by simp [lefT] at h
  | n + 1, h => by
    simp only [lefT] at h
    by_cases e : 0 < lefK (sk x n) (tk x n)
    · exact ⟨n, by omega, e⟩
    · have h1 := lefK_pos (sk x n) (tk x n)
      obtain ⟨k, h2, h3⟩ := lefT_ex (x := x) n (by omega)
      exact ⟨k, by omega, h3⟩
/-- a section that can go on -/
theorem sec_ex {x : Ln} (hv : vldL x = true) : ∀ k, k < x.n → 0 < lefK (sk x k) (tk x k) → ∃ q, q < x.n ∧ 0 < lefK (sk x q) (tk x q) ∧ (sk x q ≠ 2 ∨ tk x q = 0 ∨ 0 < cntA x.T (2 * (q : Int)) x.m) := by
  intro k
  induction k using Nat.strongRecOn with
  | ind k ih =>
    intro hk hl
    by_cases h1 : sk x k ≠ 2
    · exact ⟨k, hk, hl, .inl h1⟩
    by_cases h2 : tk x k = 0
    · exact ⟨k, hk, hl, .inr (.inl h2)⟩
    by_cases h3 : 0 < cntA x.T (2 * (k : Int)) x.m
    · exact ⟨k, hk, hl, .inr (.inr h3)⟩
    obtain ⟨i, hi, hle⟩ := leA_ex (f := x.T) (q := 2 * (k : Int)) x.m (by unfold tk at h2; omega)
    have hne : x.T i ≠ 2 * (k : Int) := fun e => h3 (cntA_pos e x.m hi)
    have htr := (trOk_true.1 ((vldL_true hv).2.2.2.2.1 i hi)).1.1
    obtain ⟨p, hp⟩ := Int.eq_ofNat_of_zero_le htr
    have hjk : p / 2 < k := by omega
    refine ih (p / 2) hjk (by omega) ?_
    by_cases ho : p % 2 = 0
    · refine lefK_t ?_
      exact leA_pos (f := x.T) (q := 2 * ((p / 2 : Nat) : Int)) (i := i) (by omega) x.m hi
    · have hc := cntA_pos (f := x.T) (p := 2 * ((p / 2 : Nat) : Int) + 1) (i := i) (by omega) x.m hi
      have hcn := cnOk_true.1 ((vldL_true hv).2.2.2.2.2 (p / 2) (by omega))
      rw [sk_I hv (by omega)] at hcn
      by_cases h4 : sk x (p / 2) = 3
      · rw [h4]
        show 0 < 5 * (tk x (p / 2) : Int) + 2
        omega
      · rw [decide_eq_false h4, if_neg (by simp)] at hcn
        omega
theorem near_at {x : Ln} (hv : vldL x = true) {k : Nat} (hk : k < x.n) (c : UInt8) (hc : c ∈ eL) {J : Nat} (hn : nx (sk x k) c.toNat = J) (hJ : J < 5) (hs : mvSk x k c = false)
    (hl : ∀ t', (t' = tk x k ∧ ¬ (sk x k = 2 ∧ J = 3) ∨ t' + 1 = tk x k ∧ sk x k = 2 ∧ J = 3) → lefK J t' < lefK (sk x k) (tk x k)) :
    ∃ y, y ∈ mvsL x ∧ mvOk x y.1 y.2 = true ∧ lefS (mvTo x y.1 y.2) x.n < lefS x x.n := by
  have ho : mvOk x k (chr c) = true := by
    rw [mvOk_chr hv hk, hs]
    show (true && decide (nx (sk x k) (c.toNat : Int) < 5)) = true
    rw [decide_eq_true (by omega)]
    rfl
  have hJe : mvJ x k (chr c) = J := by rw [mvJ_chr]; exact hn
  refine ⟨((k : Int), chr c), mem_mvs hk hc (by omega) hs, ho, ?_⟩
  have h := lefT_mv ho hk
  rw [hJe] at h
  have h2 := hl _ h.2
  have e1 := lefS_T hv x.n (Nat.le_refl _)
  have e2 : lefS (mvTo x k (chr c)) x.n = lefT (mvTo x k (chr c)) x.n := lefS_T (vld_mv hv ho) x.n (Nat.le_refl _)
  show lefS (mvTo x k (chr c)) x.n < _
  rw [e1, e2]
  omega
/-- while moves are left, some move leaves fewer -/
theorem near_ex {x : Ln} (hv : vldL x = true) (h0 : 0 < lefS x x.n) : ∃ y, y ∈ mvsL x ∧ mvOk x y.1 y.2 = true ∧ lefS (mvTo x y.1 y.2) x.n < lefS x x.n := by
  rw [lefS_T hv x.n (Nat.le_refl _)] at h0
  obtain ⟨k0, hk0, hl0⟩ := lefT_ex x.n h0
  obtain ⟨k, hk, hl, hgo⟩ := sec_ex hv k0 hk0 hl0
  have h5 := sk_lt hv hk
  have hsc : ∀ c : UInt8, c ≠ 101 → mvSk x k c = false := fun c h => by unfold mvSk; rw [decide_eq_false h]; rfl
  have hs5 : sk x k = 0 ∨ sk x k = 1 ∨ sk x k = 2 ∨ sk x k = 3 ∨ sk x k = 4 := by omega
  rcases hs5 with e | e | e | e | e
  · rw [e] at hl
    have ht : 0 < tk x k := by
      have : (0 : Int) < 5 * (tk x k : Int) := hl
      omega
    refine near_at hv hk 111 (by decide) (J := 1) (by rw [e]; rfl) (by omega) (hsc _ (by decide)) (fun t' h => ?_)
    rw [e]
    rcases h with ⟨rfl, _⟩ | ⟨_, h, _⟩
    · simp only [lefK, if_pos ht]; omega
    · omega
  · by_cases ht : 0 < tk x k
    · refine near_at hv hk 97 (by decide) (J := 2) (by rw [e]; rfl) (by omega) (hsc _ (by decide)) (fun t' h => ?_)
      rw [e]
      rcases h with ⟨rfl, _⟩ | ⟨_, h, _⟩
      · simp only [lefK, if_pos ht]; omega
      · omega
    · refine near_at hv hk 114 (by decide) (J := 0) (by rw [e]; rfl) (by omega) (hsc _ (by decide)) (fun t' h => ?_)
      rw [e]
      rcases h with ⟨rfl, _⟩ | ⟨_, h, _⟩
      · simp only [lefK, if_neg ht]; omega
      · omega
  · by_cases ht : 0 < tk x k
    · have hc : 0 < cntA x.T (2 * (k : Int)) x.m := by
        rcases hgo with h | h | h
        · exact absurd e h
        · omega
        · exact h
      refine near_at hv hk 101 (by decide) (J := 3) (by rw [e]; rfl) (by omega) (by unfold mvSk; rw [decide_eq_false (show ¬ cntA x.T (2 * (k : Int)) x.m = 0 by omega), Bool.and_false]) (fun t' h => ?_)
      rw [e]
      rcases h with ⟨_, h⟩ | ⟨h, _, _⟩
      · exact absurd ⟨e, rfl⟩ h
      · simp only [lefK, if_pos ht]; omega
    · refine near_at hv hk 99 (by decide) (J := 0) (by rw [e]; rfl) (by omega) (hsc _ (by decide)) (fun t' h => ?_)
      rw [e]
      rcases h with ⟨rfl, _⟩ | ⟨_, _, h⟩
      · simp only [lefK, if_neg ht]; omega
      · omega
  · refine near_at hv hk 108 (by decide) (J := 4) (by rw [e]; rfl) (by omega) (hsc _ (by decide)) (fun t' h => ?_)
    rw [e]
    rcases h with ⟨rfl, _⟩ | ⟨_, h, _⟩
    · simp only [lefK]; omega
    · omega
  · refine near_at hv hk 102 (by decide) (J := 0) (by rw [e]; rfl) (by omega) (hsc _ (by decide)) (fun t' h => ?_)
    rw [e]
    rcases h with ⟨rfl, _⟩ | ⟨_, h, _⟩
    · simp only [lefK]; omega
    · omega
end Go.Proofs.YtlkdmpfifpkpaaaGreatDoor
