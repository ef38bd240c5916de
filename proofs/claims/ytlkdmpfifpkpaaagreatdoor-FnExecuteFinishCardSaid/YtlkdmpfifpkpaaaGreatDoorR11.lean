/-
  Parts of the proof of fnExecuteFinish_proved: Ig Jv Jw Jx Jy Ia Ib Ih Ii Ij Rows2 Rows5. No condition.
-/
import Derived.WalkKit
import Derived.WalkSpells
import Derived.WalkLawsBesides
import Derived.Lib.Hide
import Derived.BigQuiet
import Derived.Deep.QuietTactic
import Derived.Deep.RegionHeld3
import Derived.Deep.DeepFit
import Derived.Shelf.RegionOpen
import Derived.Maps.AppendAt
import Derived.Lib.IndexLaws
import Derived.Deep.DeepCutAuto
import Derived.Deep.RegionWith
import Derived.Lib.Strings
import Derived.Laws.BitsAllLaws
import Derived.RangeFuncNested
import Derived.RangeFuncBound
import Derived.RangeFuncCalls
import Derived.RangeFuncLeaves
import Derived.RangeFuncBox
import Derived.Shelf.Abstract
import Derived.OwnWalkIn
import Derived.TacticsInMore
import Derived.LoopNIn
import Derived.LoopIn
import Derived.Recover
import Derived.Defers
import Derived.Lib.Builder
import Derived.Lib.AppendStr
import Derived.Lib.UnsafeStr
import Derived.Lib.Slices
import Derived.Laws.Externs
import Derived.Lib.SlBytesRow
import Derived.Test.YtlkdmpfifpkpaaaGreatDoorChecked
import Derived.Shelf.Strings.Builder1
import Derived.Shelf.Strings.Builder2
import Derived.Shelf.Strings.OnBuilder
import Derived.Shelf.Strings.BuilderF
import Derived.Shelf.Strconv.Itoa0
import Derived.Shelf.Strconv.Itoa1
import Derived.Shelf.LaysM
import Derived.Shelf.Strconv.Itoa2
import Derived.Shelf.Strconv.Itoa3
import Derived.Shelf.Strings.Search1
import Derived.Shelf.Strings.Search2
import Derived.Shelf.Strings.Search3
import Derived.Shelf.Strings.Count
import Derived.Shelf.Strings.Shaped
import Derived.Shelf.Strings.Split
import Derived.Shelf.Strings.SplitShaped
import Derived.Shelf.Unicode.DecodeSlow
import Derived.Test.YtlkdmpfifpkpaaaGreatDoorProg
import Derived.Lib.ItoaLen
import Derived.Lib.ItoaMem
import Derived.Lib.AppendIntMem
import Derived.OrdersIn
import Derived.OrdersHeld
import Derived.Deep.RegionHeld
import Derived.Lib.SplitLaws
import Derived.Lib.IndexBytes
import Derived.Laws.IdiomStrings
import Derived.Test.YtlkdmpfifpkpaaaGreatDoorRows
import Derived.ProofKit
import Derived.OpenShut
import Derived.JoinedCond
import Derived.Lib.SmallJoins
import Derived.Test.YtlkdmpfifpkpaaaGreatDoorCards
import Derived.Test.YtlkdmpfifpkpaaaGreatDoorTie
import Derived.LaidMore
import Derived.LaidSub
import Derived.Lay
import Derived.SevenTiedAt
import Derived.Stop.Joined
import Derived.Shelf.Vars
import Derived.Lib.LaidTab
import Derived.Test.YtlkdmpfifpkpaaaGreatDoorR01
import Derived.Test.YtlkdmpfifpkpaaaGreatDoorR02
import Derived.Test.YtlkdmpfifpkpaaaGreatDoorR03
import Derived.Test.YtlkdmpfifpkpaaaGreatDoorR04
import Derived.Test.YtlkdmpfifpkpaaaGreatDoorR05
import Derived.Test.YtlkdmpfifpkpaaaGreatDoorR06
import Derived.Test.YtlkdmpfifpkpaaaGreatDoorR07
import Derived.Test.YtlkdmpfifpkpaaaGreatDoorR08
import Derived.Test.YtlkdmpfifpkpaaaGreatDoorR09
import Derived.Test.YtlkdmpfifpkpaaaGreatDoorR10
namespace Go.Proofs.YtlkdmpfifpkpaaaGreatDoor
open Go.RowKit

/-- the session behind some recorded moves -/
def rcAll (st : Ses) (ys : List (Int × ByteArray)) : Ses := { st with ms := st.ms ++ ys, ts := st.ts ++ List.replicate ys.length st.tm }
theorem rcAll_nil (st : Ses) : rcAll st [] = st := by simp [rcAll]
theorem rcAll_snoc (st : Ses) (ys : List (Int × ByteArray)) (y : Int × ByteArray) : rcAll st (ys ++ [y]) = rcS (rcAll st ys) y.1 y.2 := by
  simp [rcAll, rcS, List.replicate_succ']
/-- the session behind finish, and what it says -/
def fiS (st : Ses) : Option Ses := if st.ms.length + (fnL st.x).length ≤ 100 then (match rnO st.x (mvM (fnL st.x)) (mvS (fnL st.x)) (fnL st.x).length with | some y => some (rcAll { st with x := y } (fnL st.x)) | none => none) else none
def fiSS (st : Ses) : Ses := (fiS st).getD st
def fiO (st : Ses) : ByteArray := match fiS st with | some _ => ⟨#[109, 111, 118, 101, 115, 32]⟩ ++ itT (fnL st.x).length | none => noT
theorem fiS_many {st : Ses} (h : ¬ st.ms.length + (fnL st.x).length ≤ 100) : fiS st = none := if_neg h
theorem fiS_none {st : Ses} (h : rnO st.x (mvM (fnL st.x)) (mvS (fnL st.x)) (fnL st.x).length = none) : fiS st = none := by
  unfold fiS
  rw [h]
  split <;> rfl
theorem fiS_some {st : Ses} {y : Ln} (h : st.ms.length + (fnL st.x).length ≤ 100) (h2 : rnO st.x (mvM (fnL st.x)) (mvS (fnL st.x)) (fnL st.x).length = some y) : fiS st = some (rcAll { st with x := y } (fnL st.x)) := by
  unfold fiS
  rw [if_pos h, h2]
/-- between two records -/
structure FiI (z s b : Nat) (w wr : World) (own own' : Nat → Prop) (st : Ses) : Prop where
  ss : StS z st own' wr s
  fr : Fr own w wr
  sub : ∀ q, own' q → own q ∨ w.heap.size ≤ q
  nb : ¬ own' b
  bl : b < wr.heap.size
  wb : w.heap.size ≤ b
theorem FiI.below {z s b : Nat} {w wr wa : World} {own own' : Nat → Prop} {st : Ses} (h : FiI z s b w wr own own' st) (hb : Below wr.heap.size wr wa) : FiI z s b w wa own own' st :=
  ⟨h.ss.keep (Fr.of_below hb _), h.fr.trans (Fr.of_below hb _), h.sub, h.nb, Nat.lt_of_lt_of_le h.bl hb.size, h.wb⟩
theorem FiI.step {z s b : Nat} {w wr wa : World} {own own1 own2 : Nat → Prop} {st st2 : Ses} (h : FiI z s b w wr own own1 st) (h2 : StS z st2 own2 wa s) (hf : Fr own1 wr wa) (hq : ∀ q, own2 q → own1 q ∨ wr.heap.size ≤ q) : FiI z s b w wa own own2 st2 := by
  refine ⟨h2, h.fr.trans2 hf h.sub, fun q hq2 => ?_, fun hb => ?_, Nat.lt_of_lt_of_le h.bl hf.size, h.wb⟩
  · rcases hq q hq2 with e | e
    · exact h.sub q e
    · exact .inr (Nat.le_trans h.fr.size e)
  · rcases hq b hb with e | e
    · exact h.nb e
    · have := h.bl
      omega
set_option linter.unusedSimpArgs false in
set_option maxRecDepth 100000 in
set_option maxHeartbeats 4000000 in
theorem doFinish_any (z s bw n c : Nat) (m : Int) (st : Ses) (own : Nat → Prop) (w : World) (hz : z ≤ w.heap.size) (hz2 : 2 ≤ z) (hW : WF m w) (hS : StS z st own w s) (hk : SesOk st) :
    Calls Tryz.prog 99 #[.pointer (some ⟨s, 0, none⟩), .slice (some ⟨bw, 0, none⟩) n c] w (Md z (fiSS st) (fiO st) s own w) := by
  have HS := Lib.hid hS
  have HWF := Lib.hid hW
  have HSO : Hid (∀ q, own q → z ≤ q ∧ q < w.heap.size) := hS.oz.2
  have hxn := hk.xn
  have hml := hk.ml
  have HTL := Lib.hid hk.tl
  obtain ⟨g1, c1, g2, c2, vm, vt, h1, h2⟩ := hS
  obtain ⟨am, cm, hvm⟩ := h1.mv.shape
  subst hvm
  have HS1 := Lib.hid h1
  have HO := Lib.hid h2
  have HLF := Lib.hid (lineFinish_any g1 0 c1 g2 0 c2 st.x w (by omega) (by omega) (BkC.of_own h1.bs) (IC.of_own h1.tr))
  rw [hk.xv] at HLF
  have hsc := h1.box.cell
  have HFN : Hid (¬ st.ms.length + (fnL st.x).length ≤ 100 → fiO st = noT ∧ fiSS st = st) := fun h => by unfold fiO fiSS; rw [fiS_many h]; exact ⟨rfl, rfl⟩
  have HFX : Hid (rnO st.x (mvM (fnL st.x)) (mvS (fnL st.x)) (fnL st.x).length = none → fiO st = noT ∧ fiSS st = st) := fun h => by unfold fiO fiSS; rw [fiS_none h]; exact ⟨rfl, rfl⟩
  have HFY : Hid (∀ y, st.ms.length + (fnL st.x).length ≤ 100 → rnO st.x (mvM (fnL st.x)) (mvS (fnL st.x)) (fnL st.x).length = some y → fiO st = ⟨#[109, 111, 118, 101, 115, 32]⟩ ++ itT (fnL st.x).length ∧ fiSS st = rcAll { st with x := y } (fnL st.x)) := fun y h h2 => by unfold fiO fiSS; rw [fiS_some h h2]; exact ⟨rfl, rfl⟩
  have hys : (fnL st.x).length ≤ 135 := by
    unfold fnL
    split
    · have h3 := finL_len (lefS st.x st.x.n).toNat st.x
      have h4 := lefS_135 hk.xv
      exact Nat.le_trans h3 h4
    · exact Nat.zero_le _
  clear h1 h2 hk hW
  generalize fnL st.x = ys at *
  go_enter Tryz.func99, Tryz.ntmps99
  go_wp2_with fail
  refine HLF.out.mono ?_
  rintro e w2 ⟨⟨v, gv, rfl, hrow⟩, hb2⟩
  have HB2 := Lib.hid hb2
  rcases hrow with ⟨b, cy, _, rfl, hwb, ho⟩ | ⟨hno, _⟩
  case inr => cases hno
  have HOW := Lib.hid ho
  have HS2 := Lib.hid (HS1.out.fr (Fr.of_below hb2 (fun _ => False)) (fun _ _ h => h))
  have hsc2 := HS2.out.box.cell
  clear ho hb2 hsc HLF
  by_cases hle : st.ms.length + ys.length ≤ 100
  · have hgt : ¬ (100 : Int) < (st.ms.length : Int) + (ys.length : Int) := by omega
    have hwr : IntKind.i64.wrap ((st.ms.length : Int) + (ys.length : Int)) = (st.ms.length : Int) + (ys.length : Int) := IntWalk.i64_in _ (by omega)
    have HLE := Lib.hid hle
    go_wp2_with fail
    refine (lineRun_any g1 0 c1 g2 0 c2 b 0 ys.length cy st.x (mvM ys) (mvS ys) w2 (by omega) (by omega) (by omega) (BkC.of_own HS2.out.bs) (IC.of_own HS2.out.tr) (MvsC.of_own HOW.out)).mono ?_
    rintro e w3 ⟨hb3, h3⟩
    have HB3 := Lib.hid hb3
    have HB23 := Lib.hid (HB2.out.trans (hb3.mono HB2.out.size))
    rcases h3 with ⟨hno, rfl⟩ | ⟨y, v, hy, rfl, hl3⟩
    · have HE := Lib.hid (HFX.out hno)
      clear hno hb3 hsc2
      unfold nilLn
      go_wp2_with fail
      go_ret
      have HB4 := Lib.hid (HB23.out.alloc HB23.out.size (.cells #[.slice none 0 0, .slice none 0 0] 31))
      exact ⟨by rw [HE.out.1]; rfl, own, by rw [HE.out.2]; exact HS.out.keep (Fr.of_below HB4.out _), Fr.of_below HB4.out own, fun _ hq => .inl hq⟩
    · have HE := Lib.hid (HFY.out y HLE.out hy)
      have HS3 := Lib.hid (HS2.out.fr (Fr.of_below hb3 (fun _ => False)) (fun _ _ h => h))
      have HL3 := Lib.hid hl3
      have HOW3 := Lib.hid (HOW.out.below hb3 HOW.out.lt)
      have hsc3 := HS3.out.box.cell
      have hsf3 := HS3.out.box.free
      have hsb3 := HS3.out.box.lt
      obtain ⟨p1, d1, p2, d2, rfl, _⟩ := hl3
      clear hy hb3 hsc2 HFX HFY HFN
      go_wp2_with fail
      have hSOw : ∀ q, ownS s g1 g2 (.slice am st.ms.length cm) vt q → z ≤ q ∧ q < w.heap.size := fun q hq => HSO.out q ((HO.out q).2 hq)
      have HN := Lib.hid (HS3.out.setLn HL3.out (fun q hq => by have := (hSOw q hq).2; have := HB2.out.size; omega) (Nat.le_trans hz HB2.out.size))
      have hb2w : b < w2.heap.size := HOW.out.lt
      have hs2 := HB2.out.size
      have hs3 := HB3.out.size
      have HSS := hSOw s (.inl rfl)
      have HFR : Hid (Fr own w ((w3.setCell ⟨s, 0, none⟩ (.slice (some ⟨p1, 0, none⟩) y.n d1)).setCell ⟨s, 1, none⟩ (.slice (some ⟨p2, 0, none⟩) y.m d2))) := (Fr.of_below HB23.out own).trans (((Fr.set w3 ⟨s, 0, none⟩ (.slice (some ⟨p1, 0, none⟩) y.n d1)).trans (Fr.set _ ⟨s, 1, none⟩ (.slice (some ⟨p2, 0, none⟩) y.m d2))).mono (fun q _ e => by
        show own q
        rw [show q = s from e]
        exact (HO.out s).2 (.inl rfl)))
      have HI0 : Hid (FiI z s b w ((w3.setCell ⟨s, 0, none⟩ (.slice (some ⟨p1, 0, none⟩) y.n d1)).setCell ⟨s, 1, none⟩ (.slice (some ⟨p2, 0, none⟩) y.m d2)) own (ownS s p1 p2 (.slice am st.ms.length cm) vt) (rcAll { st with x := y } [])) := by
        show FiI _ _ _ _ _ _ _ _
        rw [rcAll_nil]
        refine ⟨⟨p1, d1, p2, d2, _, _, HN.out.1, fun _ => Iff.rfl⟩, HFR.out, fun q hq => ?_, fun hq => ?_, by have := HFR.out.size; simp; omega, hwb⟩
        · rcases hq with e | e | e | e | e
          · exact .inl ((HO.out q).2 (.inl e))
          · right; have := HN.out.2.1; omega
          · right; have := HN.out.2.2; omega
          · exact .inl ((HO.out q).2 (.inr (.inr (.inr (.inl e)))))
          · exact .inl ((HO.out q).2 (.inr (.inr (.inr (.inr e)))))
        · rcases hq with e | e | e | e | e
          · omega
          · have := HN.out.2.1; omega
          · have := HN.out.2.2; omega
          · have := (hSOw b (.inr (.inr (.inr (.inl e))))).2; omega
          · have := (hSOw b (.inr (.inr (.inr (.inr e))))).2; omega
      have HOW0 : Hid (Own ((w3.setCell ⟨s, 0, none⟩ (.slice (some ⟨p1, 0, none⟩) y.n d1)).setCell ⟨s, 1, none⟩ (.slice (some ⟨p2, 0, none⟩) y.m d2)) b cy ys.length 2 94 (mvF (mvM ys) (mvS ys))) := (HOW3.out.setOther (by dsimp only; omega) _).setOther (by dsimp only; omega) _
      clear hsc3 hsf3 hsb3 HN HFR
      generalize (w3.setCell ⟨s, 0, none⟩ (.slice (some ⟨p1, 0, none⟩) y.n d1)).setCell ⟨s, 1, none⟩ (.slice (some ⟨p2, 0, none⟩) y.m d2) = w4 at *
      have HI1 := Lib.hid (HI0.out.below (below_all w4 (.cells #[.slice (some ⟨p1, 0, none⟩) y.n d1, .slice (some ⟨p2, 0, none⟩) y.m d2] 31)))
      have HOW1 := Lib.hid (HOW0.out.below (below_all w4 (.cells #[.slice (some ⟨p1, 0, none⟩) y.n d1, .slice (some ⟨p2, 0, none⟩) y.m d2] 31)) HOW0.out.lt)
      go_loopw [9, 48] (fun _ i wr => ∃ (j : Nat) (own' : Nat → Prop), j ≤ ys.length ∧ i = .int .i64 j ∧ Hid (FiI z s b w wr own own' (rcAll { st with x := y } (ys.take j))) ∧ Hid (Own wr b cy ys.length 2 94 (mvF (mvM ys) (mvS ys)))) (fun _ i _ => ys.length - (intOf i).toNat)
      case atStart => exact ⟨0, _, Nat.zero_le _, rfl, by rw [List.take_zero]; exact HI1, HOW1⟩
      case round =>
        obtain ⟨j, own', hj, rfl, HI, HOR⟩ := hrel
        by_cases hlt : j < ys.length
        · have hji : (j : Int) < (ys.length : Int) := by omega
          obtain ⟨c0, c1'⟩ := (MvsC.of_own HOR.out) j hlt
          rw [Nat.zero_add] at c0 c1'
          have HTK : Hid (rcAll { st with x := y } (ys.take (j + 1)) = rcS (rcAll { st with x := y } (ys.take j)) (mvM ys j) (mvS ys j)) := by
            show _ = _
            rw [List.take_succ_eq_append_getElem hlt, rcAll_snoc, (mvM_at hlt).1, (mvM_at hlt).2]
          have HRE := fun (W : World) (h : Below wr.heap.size wr W) => Lib.hid (record_any z s (mvM ys j) (mvS ys j) (rcAll { st with x := y } (ys.take j)) own' W (Nat.le_trans hz (Nat.le_trans HI.out.fr.size h.size)) (HI.out.below h).ss (by simp [rcAll]; omega) (by simp [rcAll]; have := HTL.out; omega))
          generalize mvM ys j = m1 at *
          generalize mvS ys j = l1 at *
          go_wp2_with fail
          refine (HRE _ (below_all _ _)).out.mono ?_
          rintro e w5 ⟨rfl, own2, h1, h2, h3⟩
          have HI2 := Lib.hid ((HI.out.below (below_all wr (.cells #[.int .i64 m1, .string l1] 94))).step h1 h2 h3)
          have HO2 := Lib.hid ((HOR.out.below (below_all wr (.cells #[.int .i64 m1, .string l1] 94)) HOR.out.lt).fr h2 HI.out.nb)
          clear h1 h2 h3 c0 c1' HRE
          go_wp2_with fail
          go_roundw
          case rel => exact ⟨j + 1, own2, by omega, by go_num, by rw [HTK.out]; exact HI2, HO2⟩
          case measure => simp [intOf]; omega
        · obtain rfl : j = ys.length := by omega
          rw [List.take_length] at HI
          have HWF5 := Lib.hid (HWF.out.fr HI.out.fr (fun q hq => by have := (HSO.out q hq).1; omega))
          have hits := itT_size (ys.length : Int) (by omega) (by omega)
          go_wp2_with fail
          refine (itoa_any (ys.length : Int) (by omega) (by omega) _ HWF5.out).mono ?_
          rintro e w6 ⟨rfl, hb6⟩
          have HI6 := Lib.hid (HI.out.below hb6)
          clear hb6
          go_wp2_with fail
          go_ret
          exact ⟨by rw [HE.out.1]; rfl, own', by rw [HE.out.2]; exact HI6.out.ss, HI6.out.fr, HI6.out.sub⟩
  · have hgt : (100 : Int) < (st.ms.length : Int) + (ys.length : Int) := by omega
    have hwr : IntKind.i64.wrap ((st.ms.length : Int) + (ys.length : Int)) = (st.ms.length : Int) + (ys.length : Int) := IntWalk.i64_in _ (by omega)
    have HE := Lib.hid (HFN.out hle)
    go_wp2_with fail
    go_ret
    exact ⟨by rw [HE.out.1]; rfl, own, by rw [HE.out.2]; exact HS.out.keep (Fr.of_below HB2.out _), Fr.of_below HB2.out own, fun _ hq => .inl hq⟩
end Go.Proofs.YtlkdmpfifpkpaaaGreatDoor
namespace Go.Proofs.YtlkdmpfifpkpaaaGreatDoor
open Go.RowKit

/-- what is between a byte -/
def spB (c : UInt8) : List UInt8 → List (List UInt8)
  | [] => [[]]
  | b :: l => if b = c then [] :: spB c l else match spB c l with | [] => [[b]] | x :: r => (b :: x) :: r
theorem spB_free {c : UInt8} : ∀ {l : List UInt8}, c ∉ l → spB c l = [l]
  | [], _ => rfl
  | b :: l, h => by
    have h1 : b ≠ c := fun e => h (by simp [e])
    have h2 := spB_free (c := c) (l := l) (fun e => h (by simp [e]))
    simp [spB, h1, h2]
theorem spB_app {c : UInt8} : ∀ {a : List UInt8} (b : List UInt8), c ∉ a → spB c (a ++ c :: b) = a :: spB c b
  | [], b, _ => by simp [spB]
  | x :: a, b, h => by
    have h1 : x ≠ c := fun e => h (by simp [e])
    have h2 := spB_app (c := c) (a := a) b (fun e => h (by simp [e]))
    simp [spB, h1, h2]
/-- whole lines -/
def lnsB (ls : List (List UInt8)) : List UInt8 := ls.flatMap (· ++ [10])
theorem spB_lines : ∀ (ls : List (List UInt8)), (∀ l, l ∈ ls → (10 : UInt8) ∉ l) → spB 10 (lnsB ls) = ls ++ [[]]
  | [], _ => rfl
  | l :: ls, h => by
    have h2 := spB_lines ls (fun x hx => h x (by simp [hx]))
    have e : lnsB (l :: ls) = l ++ 10 :: lnsB ls := by simp [lnsB]
    rw [e, spB_app _ (h l (by simp)), h2]
    rfl
theorem countB_one (t : ByteArray) (c : UInt8) : Lib.countB t ⟨#[c]⟩ = t.data.toList.count c := Lib.count_one c t.data.toList
theorem indexByte_app {c : UInt8} : ∀ {a : List UInt8} (b : List UInt8), c ∉ a → Lib.indexByte (a ++ c :: b) c = a.length
  | [], b, _ => by simp [Lib.indexByte]
  | x :: a, b, h => by
    have h1 : (x == c) = false := beq_eq_false_iff_ne.2 (fun e => h (by simp [e]))
    have h2 := indexByte_app (c := c) (a := a) b (fun e => h (by simp [e]))
    have h3 : ((a.length : Int) == -1) = false := beq_eq_false_iff_ne.2 (by omega)
    simp only [List.cons_append, Lib.indexByte, h1, h2, h3, List.length_cons]
    simp
theorem ext_list (t : ByteArray) (i j : Nat) : (t.extract i j).data.toList = (t.data.toList.take j).drop i := by
  simp [ByteArray.data_extract, Array.toList_extract, List.extract_eq_take_drop, List.drop_take]
theorem splitB_spB (c : UInt8) : ∀ (k : Nat) (t : ByteArray), t.data.toList.count c = k → (Lib.splitB ⟨#[c]⟩ 0 k t).map (·.data.toList) = spB c t.data.toList
  | 0, t, h => by
    have hn : c ∉ t.data.toList := List.count_eq_zero.1 h
    rw [spB_free hn]
    rfl
  | k + 1, t, h => by
    have hm : c ∈ t.data.toList := List.count_pos_iff.1 (by omega)
    obtain ⟨a, b, e, ha⟩ := List.eq_append_cons_of_mem hm
    have hi : Lib.indexB t ⟨#[c]⟩ = (a.length : Int) := by
      show Lib.index t.data.toList [c] = _
      rw [Lib.index_one, e, indexByte_app b ha]
    have hz : t.size = a.length + (b.length + 1) := by
      have : t.data.toList.length = t.size := by simp
      rw [← this, e, List.length_append, List.length_cons]
    have h1 : (t.extract 0 a.length).data.toList = a := by
      rw [ext_list, e, List.drop_zero, List.take_left]
    have h2 : (t.extract (a.length + 1) t.size).data.toList = b := by
      rw [ext_list, e, hz, List.take_of_length_le (by rw [List.length_append, List.length_cons]; exact Nat.le_refl _), List.append_cons a c b, show a.length + 1 = (a ++ [c]).length from by rw [List.length_append]; rfl, List.drop_left]
    have hc : b.count c = k := by
      rw [e, List.count_append, List.count_eq_zero.2 ha, List.count_cons_self] at h
      omega
    rw [Lib.splitB_hit _ _ _ _ _ hi, e, spB_app b ha, List.map_cons]
    have ih := splitB_spB c k (t.extract (a.length + 1) t.size) (by rw [h2]; exact hc)
    rw [h2] at ih
    show (t.extract 0 (a.length + 0)).data.toList :: _ = _
    rw [Nat.add_zero, h1]
    exact congrArg _ ih
theorem wdL_spB (t : ByteArray) : (wdL t).map (·.data.toList) = spB 32 t.data.toList := by
  unfold wdL
  exact splitB_spB 32 _ t (countB_one t 32).symm
theorem lnT_spB (t : ByteArray) : (lnT t).map (·.data.toList) = spB 10 t.data.toList := by
  unfold lnT
  exact splitB_spB 10 _ t (countB_one t 10).symm
theorem ba_ext {a b : ByteArray} (h : a.data.toList = b.data.toList) : a = b := by
  cases a
  cases b
  simpa using h
theorem map_ba_inj : ∀ {xs ys : List ByteArray}, xs.map (·.data.toList) = ys.map (·.data.toList) → xs = ys
  | [], [], _ => rfl
  | [], _ :: _, h => by cases h
  | _ :: _, [], h => by cases h
  | x :: xs, y :: ys, h => by
    simp only [List.map_cons, List.cons.injEq] at h
    rw [ba_ext h.1, map_ba_inj h.2]
/-- the lines of a script of whole lines -/
theorem lnT_of {t : ByteArray} {ls : List ByteArray} (h : t.data.toList = lnsB (ls.map (·.data.toList))) (hf : ∀ l, l ∈ ls → (10 : UInt8) ∉ l.data.toList) : lnT t = ls ++ [⟨#[]⟩] := by
  refine map_ba_inj ?_
  rw [lnT_spB, h, spB_lines _ (fun l hl => by
    obtain ⟨x, hx, rfl⟩ := List.mem_map.1 hl
    exact hf x hx), List.map_append]
  rfl
/-- the words of a line -/
theorem wdL_of {t : ByteArray} {ws : List ByteArray} (h : spB 32 t.data.toList = ws.map (·.data.toList)) : wdL t = ws := map_ba_inj (by rw [wdL_spB, h])
end Go.Proofs.YtlkdmpfifpkpaaaGreatDoor
namespace Go.Proofs.YtlkdmpfifpkpaaaGreatDoor
open Go.RowKit

/-- lines one behind the other -/
def Stp : Ses → List (ByteArray × ByteArray) → Ses → Prop
  | st, [], st' => st = st'
  | st, y :: r, st' => ∃ st1, Ans st y.1 st1 y.2 ∧ Stp st1 r st'
theorem Stp.fn : ∀ {a : List (ByteArray × ByteArray)} {st st' : Ses}, Stp st a st' → ∃ sts : Nat → Ses, sts 0 = st ∧ sts a.length = st' ∧ ∀ k y, a[k]? = some y → Ans (sts k) y.1 (sts (k + 1)) y.2
  | [], st, st', h => ⟨fun _ => st, rfl, h, fun k y hy => by simp at hy⟩
  | y :: r, st, st', ⟨s1, h1, h2⟩ => by
    obtain ⟨sts, e0, en, hs⟩ := h2.fn
    refine ⟨fun k => match k with | 0 => st | k + 1 => sts k, rfl, en, fun k z hz => ?_⟩
    match k with
    | 0 =>
      cases hz
      show Ans st y.1 (sts 0) y.2
      rw [e0]
      exact h1
    | k + 1 => exact hs k z hz
/-- what the lines say, each with its newline -/
def sayL (a : List (ByteArray × ByteArray)) : List UInt8 := lnsB (a.map (·.2.data.toList))
theorem exO_say (a : List (ByteArray × ByteArray)) (out : Nat → ByteArray) (h : ∀ k y, a[k]? = some y → out k = y.2) : ∀ k, k ≤ a.length → exO out k = sayL (a.take k)
  | 0, _ => rfl
  | k + 1, hk => by
    have ih := exO_say a out h k (by omega)
    have hk2 : k < a.length := by omega
    have e : out k = a[k].2 := h k _ (List.getElem?_eq_getElem hk2)
    have et : a.take (k + 1) = a.take k ++ [a[k]] := List.take_succ_eq_append_getElem hk2
    rw [et]
    unfold sayL at ih ⊢
    unfold lnsB at ih ⊢
    rw [List.map_append, List.flatMap_append, ← ih]
    rw [exO, e]
    simp
/-- the script of some lines -/
theorem execute_stp (t : ByteArray) (m : Int) (w : World) (a : List (ByteArray × ByteArray)) (st : Ses) (hsz : t.size ≤ 500) (hW : WF m w) (ht : t.data.toList = lnsB (a.map (·.1.data.toList))) (hf : ∀ y, y ∈ a → (10 : UInt8) ∉ y.1.data.toList) (ho : ∀ y, y ∈ a → y.2.size ≤ 1000000)
    (hs : Stp ses0 a st) (hm : st.x.m < 100) (hp : st.pn < 100) :
    Calls Tryz.prog 11 #[.string t] w fun e w' => e = .returned (.string ⟨(sayL a ++ (exT st.x.m st.pn).data.toList).toArray⟩) ∧ Below w.heap.size w w' := by
  obtain ⟨sts, e0, en, hst⟩ := hs.fn
  have hl : lnT t = a.map (·.1) ++ [⟨#[]⟩] := lnT_of (by rw [ht, List.map_map]; rfl) (fun l hl => by
    obtain ⟨y, hy, rfl⟩ := List.mem_map.1 hl
    exact hf y hy)
  have hlen : (lnT t).length - 1 = a.length := by rw [hl]; simp
  have q := execute_of t m w hsz hW sts (fun k => ((a[k]?).map (·.2)).getD ⟨#[]⟩) e0 (fun k => ?_) (fun k hk => ?_) (by rw [hlen, en]; exact hm) (by rw [hlen, en]; exact hp)
  · rw [hlen, en, exO_say a _ (fun k y hy => by simp [hy]) a.length (Nat.le_refl _), List.take_length] at q
    exact q
  · cases hk : a[k]? with
    | none => exact Nat.zero_le _
    | some y => exact ho y (List.mem_of_getElem? hk)
  · have hk2 : k < a.length := by omega
    have h1 := hst k a[k] (List.getElem?_eq_getElem hk2)
    have e1 : lnI t k = a[k].1 := by
      unfold lnI
      rw [hl, List.getElem?_append_left (by simpa using hk2)]
      simp [hk2]
    rw [e1]
    simpa [hk2] using h1
end Go.Proofs.YtlkdmpfifpkpaaaGreatDoor
namespace Go.Proofs.YtlkdmpfifpkpaaaGreatDoor
open Go.RowKit

structure XI (l : List UInt8) (x : Ln) : Prop where
  v : vldL x = true
  n1 : x.n = 1
  m1 : x.m = 1
  k : sk x 0 = rnS 0 l
  t : (101 : UInt8) ∉ l → x.T 0 = 0
theorem XI.zero : XI [] (newL 1 1) := ⟨newL_vld (by omega) (by omega) (by omega), rfl, rfl, by decide, fun _ => rfl⟩
theorem XI.ok {l : List UInt8} {x : Ln} {c : UInt8} (h : XI l x) (hr : rnS 0 (l ++ [c]) < 5) (he : c = 101 → (101 : UInt8) ∉ l) : mvOk x 0 (chr c) = true := by
  have hJ : mvJ x 0 (chr c) = nx (sk x 0) (c.toNat : Int) := mvJ_chr x 0 c
  have hr2 : nx (sk x 0) (c.toNat : Int) < 5 := by
    rw [rnS_app] at hr
    rw [h.k]
    exact hr
  have hf1 : ∀ p : Int, x.T 0 = p → fstA x.T p x.m < x.m := fun p hp => by rw [h.m1]; simp [fstA, hp]
  unfold mvOk
  rw [Bool.and_eq_true, Bool.and_eq_true, inB_true, decide_eq_true_eq, hJ]
  refine ⟨⟨by omega, by rw [h.n1]; decide⟩, hr2, ?_⟩
  by_cases h1 : c = 101
  · subst h1
    have : plI 0 (chr 101) = 0 := by decide
    rw [this, decide_eq_true (hf1 0 (h.t (he rfl)))]
    simp
  by_cases h2 : c = 108
  · subst h2
    have h3 : sk x 0 = 3 := by
      rcases nx_cases hr2 with ⟨a, b, d⟩ | ⟨a, b, d⟩ | ⟨a, b, d⟩ | ⟨a, b, d⟩ | ⟨a, b, d⟩ | ⟨a, b, d⟩ | ⟨a, b, d⟩
      all_goals first | exact a | (exfalso; revert b; decide)
    have hI : x.I 0 = true := by rw [sk_I h.v (by rw [h.n1]; omega), h3]; rfl
    have hc := cnOk_true.1 ((vldL_true h.v).2.2.2.2.2 0 (by rw [h.n1]; omega))
    rw [hI, h.m1] at hc
    have hT : x.T 0 = 1 := by
      by_cases e : x.T 0 = 1
      · exact e
      · exfalso
        simp [cntA, e] at hc
    have : plI 0 (chr 108) = 1 := by decide
    rw [this, decide_eq_true (hf1 1 hT)]
    simp
  · have e1 : eB (chr c) = false := decide_eq_false (fun e => h1 (by simpa [chr] using e))
    have e2 : lB (chr c) = false := decide_eq_false (fun e => h2 (by simpa [chr] using e))
    simp [e1, e2]
theorem XI.next {l : List UInt8} {x : Ln} {c : UInt8} (h : XI l x) (hr : rnS 0 (l ++ [c]) < 5) (he : c = 101 → (101 : UInt8) ∉ l) : XI (l ++ [c]) (mvTo x 0 (chr c)) := by
  have ho := h.ok hr he
  have hJ : mvJ x 0 (chr c) = nx (sk x 0) (c.toNat : Int) := mvJ_chr x 0 c
  have hr2 : nx (sk x 0) (c.toNat : Int) < 5 := by
    rw [rnS_app] at hr
    rw [h.k]
    exact hr
  refine ⟨vld_mv h.v ho, h.n1, h.m1, ?_, fun hn => ?_⟩
  · have q := sk_mv (x := x) (k := 0) (l := chr c) (by show mvJ x 0 (chr c) < 5; rw [hJ]; exact hr2) 0
    rw [if_pos rfl] at q
    rw [rnS_app]
    refine q.trans ?_
    refine hJ.trans ?_
    rw [h.k]
    rfl
  · have hn1 : (101 : UInt8) ∉ l := fun e => hn (by simp [e])
    have hc : c ≠ 101 := fun e => hn (by simp [e])
    have hT := h.t hn1
    obtain ⟨k, hk0, hk, hJ5, hh⟩ := mv_kind ho
    have hk1 := h.n1
    obtain rfl : k = 0 := by omega
    rcases hh with ⟨e, _⟩ | ⟨i, hi, e, _, _, _, e3⟩ | ⟨i, hi, e, _⟩
    · rw [e]; exact hT
    · exfalso
      rw [hJ] at e3
      rcases nx_cases hr2 with ⟨a, b, d⟩ | ⟨a, b, d⟩ | ⟨a, b, d⟩ | ⟨a, b, d⟩ | ⟨a, b, d⟩ | ⟨a, b, d⟩ | ⟨a, b, d⟩
      all_goals first | (rw [d] at e3; omega) | exact hc (UInt8.toNat_inj.1 (by have : (101 : UInt8).toNat = 101 := rfl; omega))
    · exfalso
      have hm1 := h.m1
      obtain rfl : i = 0 := by omega
      rw [hT] at e
      omega
end Go.Proofs.YtlkdmpfifpkpaaaGreatDoor
namespace Go.Proofs.YtlkdmpfifpkpaaaGreatDoor
open Go.RowKit

theorem cm_l : cmdK ⟨#[108, 105, 110, 101]⟩ 3 = 0 := by decide +kernel
/-- letters of a legal text -/
structure Lgl (L : List UInt8) : Prop where
  run : rnS 0 L < 5
  len : L.length ≤ 12
  cnt : L.count 101 ≤ 1
theorem Lgl.pre {a b : List UInt8} (h : Lgl (a ++ b)) : Lgl a := by
  obtain ⟨h1, h2, h3⟩ := h
  refine ⟨?_, by rw [List.length_append] at h2; omega, by rw [List.count_append] at h3; omega⟩
  rw [rnS_app] at h1
  have := rnS_le (s := 0) (by omega) a
  rcases Nat.lt_or_ge (rnS 0 a) 5 with h | h
  · exact h
  · rw [show rnS 0 a = 5 by omega, rnS_five] at h1
    omega
end Go.Proofs.YtlkdmpfifpkpaaaGreatDoor
namespace Go.Proofs.YtlkdmpfifpkpaaaGreatDoor
open Go.RowKit

theorem itT_small {n : Int} (h0 : 0 ≤ n) (h : n < 10) : itT n = ⟨#[UInt8.ofNat (48 + n.toNat)]⟩ := by
  unfold itT Lib.itoa
  rw [if_neg (by omega), Lib.decDigits_one (by omega)]
def dg1 (n : Int) : ByteArray := ⟨#[UInt8.ofNat (48 + n.toNat % 10)]⟩
theorem itT_big {n : Int} (h0 : 10 ≤ n) : itT n = itT (n / 10) ++ dg1 n := by
  refine ba_ext ?_
  unfold itT dg1 Lib.itoa
  rw [if_neg (by omega), if_neg (by omega), Lib.decDigits, dif_neg (by omega), show (n / 10).toNat = n.toNat / 10 by omega]
  simp
/-- string([]byte{d}) -/
theorem conv1 {d : Int} {k : Nat} {tx : ByteArray} (hd : d = (k : Int)) (hk : k < 256) (htx : tx = ⟨#[UInt8.ofNat k]⟩) (w : World) :
    (convert 22 9 (.slice (some ⟨w.heap.size, 0, none⟩) 1 1)).run Tryz.prog (w.alloc (.cells #[.int .u8 d] 5)) = .ok (.string tx) (w.alloc (.cells #[.int .u8 d] 5)) := by
  subst hd htx
  have q := run_convert_bytes_back (P := Tryz.prog) (w.alloc (.cells #[.int .u8 (k : Int)] 5)) 22 9 5 ⟨w.heap.size, 0, none⟩ 1 [UInt8.ofNat k] Tryz.underlying22 Tryz.underlying5 Tryz.underlying9 (fun j hj => by
    obtain rfl : j = 0 := by simp at hj; omega
    rw [addr_add, World.cell?_alloc_mark]
    simp
    omega)
  exact q
theorem conv2 {d : Int} {k b : Nat} {tx : ByteArray} (hd : d = (k : Int)) (hk : k < 256) (htx : tx = ⟨#[UInt8.ofNat k]⟩) (w : World) (hc : w.cell? ⟨b, 0, none⟩ = some (.int .u8 d)) :
    (convert 22 9 (.slice (some ⟨b, 0, none⟩) 1 1)).run Tryz.prog w = .ok (.string tx) w := by
  subst hd htx
  have q := run_convert_bytes_back (P := Tryz.prog) w 22 9 5 ⟨b, 0, none⟩ 1 [UInt8.ofNat k] Tryz.underlying22 Tryz.underlying5 Tryz.underlying9 (fun j hj => by
    obtain rfl : j = 0 := by simp at hj; omega
    rw [addr_add, hc]
    simp
    omega)
  exact q
set_option linter.unusedSimpArgs false in
set_option maxRecDepth 100000 in
set_option maxHeartbeats 2000000 in
theorem digits_small (n : Int) (w : World) (h0 : 0 ≤ n) (hn : n < 10) : Calls Tryz.prog 19 #[.int .i64 n] w fun e w' => e = .returned (.string (itT n)) ∧ Below w.heap.size w w' := by
  have hw : IntKind.i64.wrap (48 + n) = 48 + n := IntWalk.i64_in _ (by omega)
  have hw2 : IntKind.u8.wrap (48 + n) = 48 + n := IntWalk.u8_in _ (by omega)
  have hcv := conv1 (d := 48 + n) (k := 48 + n.toNat) (by omega) (by omega) (itT_small h0 hn)
  go_enter Tryz.func19, Tryz.ntmps19
  go_wp2_with fail
  go_ret
  exact ⟨rfl, below_all _ _⟩
set_option linter.unusedSimpArgs false in
set_option maxRecDepth 100000 in
set_option maxHeartbeats 2000000 in
theorem digits_any : ∀ (k : Nat) (n : Int) (w : World), n.toNat ≤ k → 0 ≤ n → n ≤ 1000000 → Calls Tryz.prog 19 #[.int .i64 n] w fun e w' => e = .returned (.string (itT n)) ∧ Below w.heap.size w w' := by
  intro k
  induction k with
  | zero =>
    intro n w hk h0 h1
    exact digits_small n w h0 (by omega)
  | succ k ih =>
    intro n w hk h0 h1
    by_cases hn : n < 10
    · exact digits_small n w h0 hn
    · have hn2 : ¬ n < 10 := hn
      have hq : n.tdiv 10 = n / 10 := by rw [Int.tdiv_eq_ediv_of_nonneg h0]
      have hm : n.tmod 10 = n % 10 := by rw [Int.tmod_eq_emod_of_nonneg h0]
      have hw0 : IntKind.i64.wrap (n / 10) = n / 10 := IntWalk.i64_in _ (by omega)
      have hw : IntKind.i64.wrap (48 + n % 10) = 48 + n % 10 := IntWalk.i64_in _ (by omega)
      have hw2 : IntKind.u8.wrap (48 + n % 10) = 48 + n % 10 := IntWalk.u8_in _ (by omega)
      have HBd : Hid (Below w.heap.size w w.drew) := (Below.refl _ _).drew
      have hsz : ¬ 9223372036854775807 < (itT (n / 10)).size + (dg1 n).size := by
        have := itT_size (n / 10) (by omega) (by omega)
        have h1 : (dg1 n).size = 1 := rfl
        omega
      have HIH : Hid (∀ W, Calls Tryz.prog 19 #[.int .i64 (n / 10)] W fun e w' => e = .returned (.string (itT (n / 10))) ∧ Below W.heap.size W w') := fun W => ih (n / 10) W (by omega) (by omega) (by omega)
      go_enter Tryz.func19, Tryz.ntmps19
      go_wp2_with fail
      refine wp_region_held_drew (S := fun W => w.heap.size ≤ W.heap.size) (by kernel_rfl) HBd.out.size (fun hHeld => ?_)
      refine wpAnyH_take (i := 0) (oi := ?_) (v := ?_) ?_ (by kernel_rfl) (by kernel_rfl) (by kernel_rfl) ?_ ?_ (by assumption) ?_
      rotate_left 2
      · simp only [List.getElem?_toArray, List.getElem?_cons_succ, List.getElem?_cons_zero]; rfl
      · exact fun _ _ _ h => h
      · first
          | (refine Or.inr ⟨?_, ?_⟩ <;> rfl)
          | (refine Or.inl ⟨?_, ?_⟩; · rfl
             intro w hSw; (try dsimp only at hSw); go_simp; (try with_reducible rfl); done)
      try simp only [Act.put, List.setIfInBounds_toArray, List.set_cons_zero, List.set_cons_succ]
      refine wpAnyH_take (i := 1) (oi := ?_) (v := ?_) ?_ (by kernel_rfl) (by kernel_rfl) (by kernel_rfl) ?_ ?_ (by assumption) ?_
      rotate_left 2
      · simp only [List.getElem?_toArray, List.getElem?_cons_succ, List.getElem?_cons_zero]; rfl
      · exact fun _ _ _ h => h
      · first
          | (refine Or.inr ⟨?_, ?_⟩ <;> rfl)
          | (refine Or.inl ⟨?_, ?_⟩; · rfl
             intro w hSw; (try dsimp only at hSw); go_simp; (try with_reducible rfl); done)
      try simp only [Act.put, List.setIfInBounds_toArray, List.set_cons_zero, List.set_cons_succ]
      refine wpAnyH_take (i := 3) (oi := ?_) (v := ?_) ?_ (by kernel_rfl) (by kernel_rfl) (by kernel_rfl) ?_ ?_ (by assumption) ?_
      rotate_left 2
      · simp only [List.getElem?_toArray, List.getElem?_cons_succ, List.getElem?_cons_zero]; rfl
      · exact fun _ _ _ h => h
      · first
          | (refine Or.inr ⟨?_, ?_⟩ <;> rfl)
          | (refine Or.inl ⟨?_, ?_⟩; · rfl
             intro w hSw; (try dsimp only at hSw); go_simp; (try with_reducible rfl); done)
      try simp only [Act.put, List.setIfInBounds_toArray, List.set_cons_zero, List.set_cons_succ]
      refine wpAnyH_take (i := 4) (oi := ?_) (v := ?_) ?_ (by kernel_rfl) (by kernel_rfl) (by kernel_rfl) ?_ ?_ (by assumption) ?_
      rotate_left 2
      · simp only [List.getElem?_toArray, List.getElem?_cons_succ, List.getElem?_cons_zero]; rfl
      · exact fun _ _ _ h => h
      · first
          | (refine Or.inr ⟨?_, ?_⟩ <;> rfl)
          | (refine Or.inl ⟨?_, ?_⟩; · rfl
             intro w hSw; (try dsimp only at hSw); go_simp; (try with_reducible rfl); done)
      try simp only [Act.put, List.setIfInBounds_toArray, List.set_cons_zero, List.set_cons_succ]
      refine wpAnyH_take (i := 5) (oi := ?_) (v := ?_) ?_ (by kernel_rfl) (by kernel_rfl) (by kernel_rfl) ?_ ?_ (by assumption) ?_
      rotate_left 2
      · simp only [List.getElem?_toArray, List.getElem?_cons_succ, List.getElem?_cons_zero]; rfl
      · exact fun _ _ _ h => h
      · first
          | (refine Or.inr ⟨?_, ?_⟩ <;> rfl)
          | (refine Or.inl ⟨?_, ?_⟩; · rfl
             intro w hSw; (try dsimp only at hSw); go_simp; (try with_reducible rfl); done)
      try simp only [Act.put, List.setIfInBounds_toArray, List.set_cons_zero, List.set_cons_succ]
      refine wpAnyH_take (i := 6) (oi := ?_) (v := ?_) ?_ (by kernel_rfl) (by kernel_rfl) (by kernel_rfl) ?_ ?_ (by assumption) ?_
      rotate_left 2
      · simp only [List.getElem?_toArray, List.getElem?_cons_succ, List.getElem?_cons_zero]; rfl
      · exact fun _ _ _ h => h
      · first
          | (refine Or.inr ⟨?_, ?_⟩ <;> rfl)
          | (refine Or.inl ⟨?_, ?_⟩; · rfl
             intro w hSw; (try dsimp only at hSw); go_simp; (try with_reducible rfl); done)
      try simp only [Act.put, List.setIfInBounds_toArray, List.set_cons_zero, List.set_cons_succ]
      refine wpAnyH_ready (rs := [2, 7]) (by kernel_rfl) (by simp) ?_
      refine AllReadyH.cons (o := ?_) ?_ (fun K hK => ?_) ?_
      rotate_left 1
      · simp only [List.getElem?_toArray, List.getElem?_cons_succ, List.getElem?_cons_zero]; rfl
      · go_simp
        go_at_call 19
        go_must (refine Calls.mono (HIH.out _) ?_)
        rintro e w1 ⟨rfl, hb1⟩
        have HB1 : Hid (Below w.heap.size w w1) := HBd.out.trans (hb1.mono HBd.out.size)
        refine hK.out _ _ ?_ (fun hHeld => ?_)
        · try dsimp only
          exact HB1.out.size
        clear hK K
        try simp only [Act.put, List.setIfInBounds_toArray, List.set_cons_zero, List.set_cons_succ]
        refine wpAnyH_ready (rs := [7]) (by kernel_rfl) (by simp) ?_
        refine AllReadyH.cons (o := ?_) ?_ (fun K hK => ?_) AllReadyH.nil
        rotate_left 1
        · simp only [List.getElem?_toArray, List.getElem?_cons_succ, List.getElem?_cons_zero]; rfl
        go_simp
        skip
        refine hK.out _ _ ?_ (fun hHeld => ?_)
        · try dsimp only
          exact (HB1.out.alloc HB1.out.size _).size
        clear hK K
        try simp only [Act.put, List.setIfInBounds_toArray, List.set_cons_zero, List.set_cons_succ]
        have hcv1 := conv1 (d := 48 + n % 10) (k := 48 + n.toNat % 10) (tx := dg1 n) (by omega) (by omega) rfl w1
        refine wpAnyH_ready (rs := [8]) (by kernel_rfl) (by simp) ?_
        refine AllReadyH.cons (o := ?_) ?_ (fun K hK => ?_) AllReadyH.nil
        rotate_left 1
        · simp only [List.getElem?_toArray, List.getElem?_cons_succ, List.getElem?_cons_zero]; rfl
        go_simp
        skip
        refine hK.out _ _ ?_ (fun hHeld => ?_)
        · try dsimp only
          exact (HB1.out.alloc HB1.out.size _).size
        clear hK K
        try simp only [Act.put, List.setIfInBounds_toArray, List.set_cons_zero, List.set_cons_succ]
        clear hcv1
        refine wpAnyH_take (i := 9) (oi := ?_) (v := ?_) ?_ (by kernel_rfl) (by kernel_rfl) (by kernel_rfl) ?_ ?_ (by assumption) ?_
        rotate_left 2
        · simp only [List.getElem?_toArray, List.getElem?_cons_succ, List.getElem?_cons_zero]; rfl
        · exact fun _ _ _ h => h
        · first
            | (refine Or.inr ⟨?_, ?_⟩ <;> rfl)
            | (refine Or.inl ⟨?_, ?_⟩; · rfl
               intro w hSw; (try dsimp only at hSw); go_simp; (try with_reducible rfl); done)
        try simp only [Act.put, List.setIfInBounds_toArray, List.set_cons_zero, List.set_cons_succ]
        refine wpAnyH_take (i := 10) (oi := ?_) (v := ?_) ?_ (by kernel_rfl) (by kernel_rfl) (by kernel_rfl) ?_ ?_ (by assumption) ?_
        rotate_left 2
        · simp only [List.getElem?_toArray, List.getElem?_cons_succ, List.getElem?_cons_zero]; rfl
        · exact fun _ _ _ h => h
        · first
            | (refine Or.inr ⟨?_, ?_⟩ <;> rfl)
            | (refine Or.inl ⟨?_, ?_⟩; · rfl
               intro w hSw; (try dsimp only at hSw); go_simp; (try with_reducible rfl); done)
        try simp only [Act.put, List.setIfInBounds_toArray, List.set_cons_zero, List.set_cons_succ]
        refine wpAnyH_done (by kernel_rfl) ?_ _
        clear hHeld
        go_wp2_with fail
        go_ret
        exact ⟨by rw [itT_big (n := n) (by omega)]; rfl, HB1.out.alloc HB1.out.size _⟩
      · refine AllReadyH.cons (o := ?_) ?_ (fun K hK => ?_) ?_
        rotate_left 1
        · simp only [List.getElem?_toArray, List.getElem?_cons_succ, List.getElem?_cons_zero]; rfl
        · have HBA : Hid (Below w.heap.size w (w.drew.alloc (.cells #[.int .u8 (48 + n % 10)] 5))) := HBd.out.alloc HBd.out.size _
          have HXA : Hid (Bx (w.drew.alloc (.cells #[.int .u8 (48 + n % 10)] 5)) w.heap.size 5 #[.int .u8 (48 + n % 10)]) := Bx.newAt rfl
          go_simp
          skip
          refine hK.out _ _ ?_ (fun hHeld => ?_)
          · try dsimp only
            exact HBA.out.size
          clear hK K
          try simp only [Act.put, List.setIfInBounds_toArray, List.set_cons_zero, List.set_cons_succ]
          refine wpAnyH_ready (rs := [2, 8]) (by kernel_rfl) (by simp) ?_
          refine AllReadyH.cons (o := ?_) ?_ (fun K hK => ?_) ?_
          rotate_left 1
          · simp only [List.getElem?_toArray, List.getElem?_cons_succ, List.getElem?_cons_zero]; rfl
          · go_simp
            go_at_call 19
            go_must (refine Calls.mono (HIH.out _) ?_)
            rintro e w1 ⟨rfl, hb1⟩
            have HB1 : Hid (Below w.heap.size w w1) := HBA.out.trans (hb1.mono HBA.out.size)
            have hcv1 := conv2 (d := 48 + n % 10) (k := 48 + n.toNat % 10) (tx := dg1 n) (b := w.heap.size) (by omega) (by omega) rfl w1 ((HXA.out.below hb1 HXA.out.lt).cell 0)
            refine hK.out _ _ ?_ (fun hHeld => ?_)
            · try dsimp only
              exact HB1.out.size
            clear hK K
            try simp only [Act.put, List.setIfInBounds_toArray, List.set_cons_zero, List.set_cons_succ]
            refine wpAnyH_ready (rs := [8]) (by kernel_rfl) (by simp) ?_
            refine AllReadyH.cons (o := ?_) ?_ (fun K hK => ?_) AllReadyH.nil
            rotate_left 1
            · simp only [List.getElem?_toArray, List.getElem?_cons_succ, List.getElem?_cons_zero]; rfl
            go_simp
            skip
            refine hK.out _ _ ?_ (fun hHeld => ?_)
            · try dsimp only
              exact HB1.out.size
            clear hK K
            try simp only [Act.put, List.setIfInBounds_toArray, List.set_cons_zero, List.set_cons_succ]
            clear hcv1
            refine wpAnyH_take (i := 9) (oi := ?_) (v := ?_) ?_ (by kernel_rfl) (by kernel_rfl) (by kernel_rfl) ?_ ?_ (by assumption) ?_
            rotate_left 2
            · simp only [List.getElem?_toArray, List.getElem?_cons_succ, List.getElem?_cons_zero]; rfl
            · exact fun _ _ _ h => h
            · first
                | (refine Or.inr ⟨?_, ?_⟩ <;> rfl)
                | (refine Or.inl ⟨?_, ?_⟩; · rfl
                   intro w hSw; (try dsimp only at hSw); go_simp; (try with_reducible rfl); done)
            try simp only [Act.put, List.setIfInBounds_toArray, List.set_cons_zero, List.set_cons_succ]
            refine wpAnyH_take (i := 10) (oi := ?_) (v := ?_) ?_ (by kernel_rfl) (by kernel_rfl) (by kernel_rfl) ?_ ?_ (by assumption) ?_
            rotate_left 2
            · simp only [List.getElem?_toArray, List.getElem?_cons_succ, List.getElem?_cons_zero]; rfl
            · exact fun _ _ _ h => h
            · first
                | (refine Or.inr ⟨?_, ?_⟩ <;> rfl)
                | (refine Or.inl ⟨?_, ?_⟩; · rfl
                   intro w hSw; (try dsimp only at hSw); go_simp; (try with_reducible rfl); done)
            try simp only [Act.put, List.setIfInBounds_toArray, List.set_cons_zero, List.set_cons_succ]
            refine wpAnyH_done (by kernel_rfl) ?_ _
            clear hHeld
            go_wp2_with fail
            go_ret
            exact ⟨by rw [itT_big (n := n) (by omega)]; rfl, HB1.out⟩
          · refine AllReadyH.cons (o := ?_) ?_ (fun K hK => ?_) ?_
            rotate_left 1
            · simp only [List.getElem?_toArray, List.getElem?_cons_succ, List.getElem?_cons_zero]; rfl
            · have hcv1 : (convert 22 9 (.slice (some ⟨w.heap.size, 0, none⟩) 1 1)).run Tryz.prog (w.alloc (.cells #[.int .u8 (48 + n % 10)] 5)).drew = .ok (.string (dg1 n)) (w.alloc (.cells #[.int .u8 (48 + n % 10)] 5)).drew := conv2 (d := 48 + n % 10) (k := 48 + n.toNat % 10) (tx := dg1 n) (b := w.heap.size) (by omega) (by omega) rfl _ (HXA.out.cell 0)
              go_simp
              skip
              refine hK.out _ _ ?_ (fun hHeld => ?_)
              · try dsimp only
                exact HBA.out.size
              clear hK K
              try simp only [Act.put, List.setIfInBounds_toArray, List.set_cons_zero, List.set_cons_succ]
              clear hcv1
              refine wpAnyH_ready (rs := [2]) (by kernel_rfl) (by simp) ?_
              refine AllReadyH.cons (o := ?_) ?_ (fun K hK => ?_) AllReadyH.nil
              rotate_left 1
              · simp only [List.getElem?_toArray, List.getElem?_cons_succ, List.getElem?_cons_zero]; rfl
              go_simp
              go_at_call 19
              go_must (refine Calls.mono (HIH.out _) ?_)
              rintro e w1 ⟨rfl, hb1⟩
              have HB1 : Hid (Below w.heap.size w w1) := HBA.out.trans (hb1.mono HBA.out.size)
              refine hK.out _ _ ?_ (fun hHeld => ?_)
              · try dsimp only
                exact HB1.out.size
              clear hK K
              try simp only [Act.put, List.setIfInBounds_toArray, List.set_cons_zero, List.set_cons_succ]
              refine wpAnyH_take (i := 9) (oi := ?_) (v := ?_) ?_ (by kernel_rfl) (by kernel_rfl) (by kernel_rfl) ?_ ?_ (by assumption) ?_
              rotate_left 2
              · simp only [List.getElem?_toArray, List.getElem?_cons_succ, List.getElem?_cons_zero]; rfl
              · exact fun _ _ _ h => h
              · first
                  | (refine Or.inr ⟨?_, ?_⟩ <;> rfl)
                  | (refine Or.inl ⟨?_, ?_⟩; · rfl
                     intro w hSw; (try dsimp only at hSw); go_simp; (try with_reducible rfl); done)
              try simp only [Act.put, List.setIfInBounds_toArray, List.set_cons_zero, List.set_cons_succ]
              refine wpAnyH_take (i := 10) (oi := ?_) (v := ?_) ?_ (by kernel_rfl) (by kernel_rfl) (by kernel_rfl) ?_ ?_ (by assumption) ?_
              rotate_left 2
              · simp only [List.getElem?_toArray, List.getElem?_cons_succ, List.getElem?_cons_zero]; rfl
              · exact fun _ _ _ h => h
              · first
                  | (refine Or.inr ⟨?_, ?_⟩ <;> rfl)
                  | (refine Or.inl ⟨?_, ?_⟩; · rfl
                     intro w hSw; (try dsimp only at hSw); go_simp; (try with_reducible rfl); done)
              try simp only [Act.put, List.setIfInBounds_toArray, List.set_cons_zero, List.set_cons_succ]
              refine wpAnyH_done (by kernel_rfl) ?_ _
              clear hHeld
              go_wp2_with fail
              go_ret
              exact ⟨by rw [itT_big (n := n) (by omega)]; rfl, HB1.out⟩
            · exact AllReadyH.nil
        · exact AllReadyH.nil
theorem digits_val (n : Int) (w : World) (h0 : 0 ≤ n) (h1 : n ≤ 1000000) : Calls Tryz.prog 19 #[.int .i64 n] w fun e w' => e = .returned (.string (itT n)) ∧ Below w.heap.size w w' := digits_any n.toNat n w (Nat.le_refl _) h0 h1
theorem itT_size100 {n : Int} (h0 : 0 ≤ n) (h1 : n ≤ 1000000) : (itT n).size ≤ 21 := itT_size n (by omega) (by omega)
theorem exT_it (a b : Nat) : exT a b = ⟨#[116, 114, 97, 105, 110, 115, 32]⟩ ++ itT a ++ ⟨#[32, 112, 97, 116, 104, 115, 32]⟩ ++ itT b ++ ⟨#[10]⟩ := by
  unfold exT itT
  rw [Lib.itoa_nonneg, Lib.itoa_nonneg]
set_option linter.unusedSimpArgs false in
theorem endLine_any (a b : Nat) (w : World) (ha : a ≤ 1000000) (hb : b ≤ 1000000) :
    Calls Tryz.prog 21 #[.int .i64 a, .int .i64 b] w fun e w' => e = .returned (.string (exT a b)) ∧ Below w.heap.size w w' := by
  have HE := Lib.hid (exT_it a b)
  have hsa := itT_size100 (n := a) (by omega) (by omega)
  have hsb := itT_size100 (n := b) (by omega) (by omega)
  have HDA : Hid (∀ W, Calls Tryz.prog 19 #[.int .i64 a] W fun e w' => e = .returned (.string (itT a)) ∧ Below W.heap.size W w') := fun W => digits_val a W (by omega) (by omega)
  have HDB : Hid (∀ W, Calls Tryz.prog 19 #[.int .i64 b] W fun e w' => e = .returned (.string (itT b)) ∧ Below W.heap.size W w') := fun W => digits_val b W (by omega) (by omega)
  generalize itT a = ta at *
  generalize itT b = tb at *
  have hz1 : ¬ 9223372036854775807 < (⟨#[116, 114, 97, 105, 110, 115, 32]⟩ : ByteArray).size + ta.size := by have : (⟨#[116, 114, 97, 105, 110, 115, 32]⟩ : ByteArray).size = 7 := rfl; omega
  go_enter Tryz.func21, Tryz.ntmps21
  go_wp2_with fail
  refine (HDA.out _).mono ?_
  rintro e w1 ⟨rfl, hb1⟩
  go_wp2_with fail
  refine (HDB.out _).mono ?_
  rintro e w2 ⟨rfl, hb2⟩
  go_wp2_with fail
  go_ret
  exact ⟨by rw [HE.out]; rfl, hb1.trans (hb2.mono hb1.size)⟩
end Go.Proofs.YtlkdmpfifpkpaaaGreatDoor
namespace Go.Proofs.YtlkdmpfifpkpaaaGreatDoor
open Go.RowKit

theorem join_snoc (xs : List (List UInt8)) (y : List UInt8) (h : xs ≠ []) : Lib.join (xs ++ [y]) [32] = Lib.join xs [32] ++ 32 :: y := by
  cases xs with
  | nil => exact absurd rfl h
  | cons x r =>
    rw [List.cons_append, Lib.join_cons, Lib.join_cons]
    simp [Lib.joinTail]
theorem jn_snoc (tx : Nat → ByteArray) (n : Nat) (h : 0 < n) : (jnT tx (n + 1)).data.toList = (jnT tx n).data.toList ++ 32 :: (tx n).data.toList := by
  unfold jnT
  show (Lib.join _ [32]).toArray.toList = (Lib.join _ [32]).toArray.toList ++ _
  rw [List.range_succ, List.map_append, List.map_cons, List.map_nil, List.toList_toArray, List.toList_toArray, join_snoc _ _ (by
    intro e
    have := congrArg List.length e
    simp at this
    omega)]
theorem jn_congr {tx ty : Nat → ByteArray} {n : Nat} (h : ∀ i, i < n → tx i = ty i) : jnT tx n = jnT ty n := by
  unfold jnT
  have : ((List.range n).map fun i => (tx i).data.toList) = ((List.range n).map fun i => (ty i).data.toList) := List.map_congr_left (fun i hi => by rw [h i (by simpa using hi)])
  rw [this]
end Go.Proofs.YtlkdmpfifpkpaaaGreatDoor
namespace Go.Proofs.YtlkdmpfifpkpaaaGreatDoor
open Go.RowKit

theorem ans_finish {st : Ses} {t : ByteArray} (ht : t.size ≤ 1000) (hk : SesOk st) (hc : cmdK (wd0 t) (wdL t).length = 3) : Ans st t (fiSS st) (fiO st) :=
  fun z s m own w hz hz2 hW hS => line_some z s 3 t m st _ _ own w ht hW.mx hc (by omega) hS fun W bw hS2 hb hw _ =>
    doFinish_any z s bw (wdL t).length (wdL t).length m st own W (Nat.le_trans hz hb.size) hz2 (hW.below hb) hS2 hk
theorem SesOk.tb {st : Ses} (h : SesOk st) : ∀ k, k < st.x.m → -1000000 ≤ st.x.T k ∧ st.x.T k ≤ 1000000 := fun k hk => by
  have hb := vldL_true h.xv
  have ht := (trOk_true.1 (hb.2.2.2.2.1 k hk)).1
  omega
theorem ans_where {st : Ses} {t : ByteArray} (ht : t.size ≤ 1000) (hk : SesOk st) (hc : cmdK (wd0 t) (wdL t).length = 4) : Ans st t st (whO st) :=
  fun z s m own w hz _ hW hS => line_some z s 4 t m st _ _ own w ht hW.mx hc (by omega) hS fun W bw hS2 hb hw _ =>
    doWhere_any z s bw (wdL t).length (wdL t).length m st own W (hW.below hb) hS2 (by have := hk.xn; omega) hk.tb
theorem ans_next {st : Ses} {t : ByteArray} (ht : t.size ≤ 1000) (hk : SesOk st) (hc : cmdK (wd0 t) (wdL t).length = 5) : Ans st t st (nxO st) :=
  fun z s m own w hz _ hW hS => line_some z s 5 t m st _ _ own w ht hW.mx hc (by omega) hS fun W bw hS2 hb hw _ =>
    doNext_any z s bw (wdL t).length (wdL t).length m st own W (hW.below hb) hS2 (by have := hk.xn; omega)
theorem leA_all {f : Nat → Int} {p : Int} : ∀ m, (∀ i, i < m → f i ≤ p) → leA f p m = m
  | 0, _ => rfl
  | m + 1, h => by
    simp only [leA]
    rw [leA_all m (fun i hi => h i (by omega)), if_pos (h m (by omega))]
theorem new_lefT (a m : Nat) : ∀ k, lefT (newL a m) k = 5 * (m : Int) * k
  | 0 => by simp [lefT]
  | k + 1 => by
    have h1 : tk (newL a m) k = m := leA_all m (fun i _ => by show (0 : Int) ≤ 2 * (k : Int); omega)
    have h2 : sk (newL a m) k = 0 := by show stI 0 false false = 0; decide
    simp only [lefT]
    rw [new_lefT a m k, h1, h2]
    show 5 * (m : Int) * k + 5 * (m : Int) = 5 * (m : Int) * ((k + 1 : Nat) : Int)
    rw [Int.natCast_add, Int.mul_add]
    simp
theorem new_lef {a m : Nat} (h1 : 1 ≤ a) (h2 : a ≤ 5) (h3 : m ≤ 5) : lefS (newL a m) (newL a m).n = ((5 * m * a : Nat) : Int) := by
  rw [lefS_T (newL_vld h1 h2 h3) _ (Nat.le_refl _), new_lefT]
  show 5 * (m : Int) * (a : Int) = _
  simp
theorem new_fin {a m : Nat} (h1 : 1 ≤ a) (h2 : a ≤ 5) (h3 : m ≤ 5) : (fnL (newL a m)).length = 5 * m * a ∧ ∃ y, rnO (newL a m) (mvM (fnL (newL a m))) (mvS (fnL (newL a m))) (fnL (newL a m)).length = some y ∧ vldL y = true ∧ lefS y y.n = 0 ∧ y.n = a ∧ y.m = m := by
  have hv := newL_vld h1 h2 h3
  obtain ⟨hl, hr⟩ := fin_run _ _ hv (new_lef h1 h2 h3)
  have e : fnL (newL a m) = finX (newL a m) := if_pos hv
  obtain ⟨y, r1, r2, r3, _, r5, r6⟩ := hr _ (Nat.le_refl _)
  rw [← hl, List.take_length] at r1
  refine ⟨by rw [e, hl], y, ?_, r2, by rw [r3]; simp, r5, r6⟩
  unfold rnO
  rw [if_pos hv, runO_all, e, r1]
theorem done_T {y : Ln} (hv : vldL y = true) (h0 : lefS y y.n = 0) : ∀ i, i < y.m → y.T i = 2 * (y.n : Int) := by
  have h := done_left hv
  rw [donL_dn4, hv, decide_eq_true h0, Bool.true_and] at h
  unfold dn4 at h
  rw [Bool.and_eq_true, allB_true, allB_true] at h
  exact fun i hi => by simpa [atEnd] using h.2 i hi
theorem done_sk {y : Ln} (hv : vldL y = true) (h0 : lefS y y.n = 0) {k : Nat} (hk : k < y.n) : sk y k = 0 :=
  (lefK_zero (lefT_zero y.n (by rw [← lefS_T hv y.n (Nat.le_refl _)]; exact h0) k hk)).1
theorem done_mvU {y : Ln} : ∀ n, (∀ k, k < n → sk y k = 0) → mvU y n = (List.range n).map fun k : Nat => ((k : Int), chr 111)
  | 0, _ => rfl
  | n + 1, h => by
    rw [mvU_succ, done_mvU n (fun k hk => h k (by omega)), List.range_succ, List.map_append]
    congr 1
    have hs : mvLt y n = [111] := by
      unfold mvLt
      rw [show stI (y.N n) (y.I n) (y.O n) = 0 from h n (by omega)]
      decide
    have hk : mvSk y n 111 = false := by simp [mvSk]
    unfold mvK mvI
    rw [hs]
    simp [hk]
theorem done_lmL {y : Ln} (hv : vldL y = true) (h0 : lefS y y.n = 0) : lmL y = (List.range y.n).map fun k : Nat => ((k : Int), chr 111) := by
  unfold lmL
  rw [if_pos hv]
  exact done_mvU y.n (fun k hk => done_sk hv h0 hk)
def lnF (c d : UInt8) : ByteArray := ⟨#[108, 105, 110, 101, 32, c, 32, d]⟩
def fT : ByteArray := ⟨#[102, 105, 110, 105, 115, 104]⟩
def whT : ByteArray := ⟨#[119, 104, 101, 114, 101]⟩
def neT : ByteArray := ⟨#[110, 101, 120, 116]⟩
theorem lnF_w {c d : UInt8} (h : c ≠ 32) (h' : d ≠ 32) : wdL (lnF c d) = [⟨#[108, 105, 110, 101]⟩, chr c, chr d] := wdL_of (by simp [lnF, chr, spB, h, h'])
theorem fT_w : wdL fT = [fT] := wdL_of (by decide)
theorem whT_w : wdL whT = [whT] := wdL_of (by decide)
theorem neT_w : wdL neT = [neT] := wdL_of (by decide)
theorem cm_f : cmdK fT 1 = 3 := by decide +kernel
theorem cm_wh : cmdK whT 1 = 4 := by decide +kernel
theorem cm_ne : cmdK neT 1 = 5 := by decide +kernel
def dgU (a : Nat) : UInt8 := UInt8.ofNat (48 + a)
theorem dg_nm {a : Nat} (h : a < 10) : nmF (chr (dgU a)) = a ∧ dgU a ≠ 32 ∧ dgU a ≠ 10 ∧ itT (a : Int) = chr (dgU a) := by
  have h2 : ∀ a : Fin 10, nmF (chr (dgU a.val)) = (a.val : Int) ∧ dgU a.val ≠ 32 ∧ dgU a.val ≠ 10 ∧ itT (a.val : Int) = chr (dgU a.val) := by decide +kernel
  exact h2 ⟨a, h⟩
def nwS (a m : Nat) : Ses := { x := newL a m, tm := 0, ms := [], ts := [] }
theorem nw_line {a m : Nat} (h1 : 1 ≤ a) (h2 : a ≤ 5) (h3 : m ≤ 5) (st : Ses) : Ans st (lnF (dgU a) (dgU m)) (nwS a m) okT := by
  obtain ⟨a1, a2, a3, a4⟩ := dg_nm (a := a) (by omega)
  obtain ⟨b1, b2, b3, b4⟩ := dg_nm (a := m) (by omega)
  have hw := lnF_w a2 b2
  have h := ans_line (st := st) (t := lnF (dgU a) (dgU m)) (by show (8 : Nat) ≤ 1000; omega) (by rw [show wd0 (lnF (dgU a) (dgU m)) = ⟨#[108, 105, 110, 101]⟩ by unfold wd0; rw [hw]; rfl, hw]; exact cm_l) (by rw [hw]; rfl)
  rw [show wdI (lnF (dgU a) (dgU m)) 1 = chr (dgU a) by unfold wdI; rw [hw]; rfl, show wdI (lnF (dgU a) (dgU m)) 2 = chr (dgU m) by unfold wdI; rw [hw]; rfl] at h
  have e : nwO (nmF (chr (dgU a))) (nmF (chr (dgU m))) = some (newL a m) := by rw [a1, b1]; exact nwO_yes (inB_true.2 (by omega)) (inB_true.2 (by omega))
  have e1 : lwS st (chr (dgU a)) (chr (dgU m)) = nwS a m := by unfold lwS; rw [e]; rfl
  have e2 : lwO (chr (dgU a)) (chr (dgU m)) = okT := by unfold lwO; rw [e]
  rw [e1, e2] at h
  exact h
theorem nwS_ok {a m : Nat} (h1 : 1 ≤ a) (h2 : a ≤ 5) (h3 : m ≤ 5) : SesOk (nwS a m) := ⟨newL_vld h1 h2 h3, Int.le_refl _, by show (0 : Int) ≤ 2000; omega, by show (0 : Nat) ≤ 100; omega, rfl⟩
/-- the words of next on a line that is done -/
def nxD (i : Nat) : ByteArray := itT (i : Int) ++ chr 111
theorem fin_says {a m : Nat} (h1 : 1 ≤ a) (h2 : a ≤ 5) (h3 : m ≤ 5) (h4 : 5 * m * a ≤ 100) : ∃ st : Ses, SesOk st ∧ st.x.m = m ∧ st.pn = 0 ∧ Ans (nwS a m) fT st (⟨#[109, 111, 118, 101, 115, 32]⟩ ++ itT ((5 * m * a : Nat) : Int)) ∧ Ans st whT st (spT (fun _ => 2 * (a : Int)) m) ∧ Ans st neT st (jnT nxD a) := by
  obtain ⟨hl, y, hr, hv, h0, hn, hm⟩ := new_fin h1 h2 h3
  have hok := nwS_ok h1 h2 h3
  have hf : fiS (nwS a m) = some (rcAll { nwS a m with x := y } (fnL (newL a m))) := fiS_some (by show 0 + (fnL (newL a m)).length ≤ 100; omega) hr
  have hs : SesOk (rcAll { nwS a m with x := y } (fnL (newL a m))) := ⟨hv, Int.le_refl _, by show (0 : Int) ≤ 2000; omega, by show ([] ++ fnL (newL a m)).length ≤ 100; simp; omega, by simp [rcAll, nwS]⟩
  refine ⟨rcAll { nwS a m with x := y } (fnL (newL a m)), hs, hm, rfl, ?_, ?_, ?_⟩
  · have h := ans_finish (st := nwS a m) (t := fT) (by decide) hok (by unfold wd0; rw [fT_w]; exact cm_f)
    have e1 : fiSS (nwS a m) = rcAll { nwS a m with x := y } (fnL (newL a m)) := by unfold fiSS; rw [hf]; rfl
    have e2 : fiO (nwS a m) = ⟨#[109, 111, 118, 101, 115, 32]⟩ ++ itT ((5 * m * a : Nat) : Int) := by
      unfold fiO
      rw [hf]
      show _ ++ itT ((fnL (newL a m)).length : Int) = _
      rw [hl]
    rw [e1, e2] at h
    exact h
  · have h := ans_where (t := whT) (by decide) hs (by unfold wd0; rw [whT_w]; exact cm_wh)
    have e : whO (rcAll { nwS a m with x := y } (fnL (newL a m))) = spT (fun _ => 2 * (a : Int)) m := by
      show spT y.T y.m = _
      unfold spT
      rw [hm]
      exact jn_congr (fun i hi => by rw [done_T hv h0 i (by omega), hn])
    rw [e] at h
    exact h
  · have h := ans_next (t := neT) (by decide) hs (by unfold wd0; rw [neT_w]; exact cm_ne)
    have e : nxO (rcAll { nwS a m with x := y } (fnL (newL a m))) = jnT nxD a := by
      show jnT (nxW (lmL y)) (lmL y).length = _
      rw [done_lmL hv h0, hn]
      rw [List.length_map, List.length_range]
      exact jn_congr (fun i hi => by simp [nxW, nxD, mvM, mvS, hi])
    rw [e] at h
    exact h
theorem jn_size {tx : Nat → ByteArray} {n B : Nat} (h : ∀ i, i < n → (tx i).size ≤ B) : (jnT tx n).size ≤ n * (B + 1) := by
  have := join_len ((List.range n).map fun i => (tx i).data.toList) 32 B (fun x hx => by
    simp only [List.mem_map, List.mem_range] at hx
    obtain ⟨i, hi, rfl⟩ := hx
    simpa using h i hi)
  simp only [List.length_map, List.length_range] at this
  show (Lib.join _ [32]).toArray.size ≤ _
  simpa using this
theorem wh_size {st : Ses} (h : SesOk st) : (whO st).size ≤ 1000 := by
  have h1 := jn_size (tx := fun i => itT (st.x.T i)) (n := st.x.m) (B := 21) (fun i hi => by have := h.tb i hi; exact itT_size _ (by omega) (by omega))
  have h2 := h.xn
  have h3 : st.x.m * (21 + 1) ≤ 5 * 22 := Nat.mul_le_mul_right _ h2.2
  show (jnT _ _).size ≤ _
  omega
theorem nx_size (st : Ses) : (nxO st).size ≤ 1000 := by
  have h1 := jn_size (tx := nxW (lmL st.x)) (n := (lmL st.x).length) (B := 22) (fun i hi => by
    have h := lmL_at hi
    have := itT_size (mvM (lmL st.x) i) (by omega) (by omega)
    unfold nxW
    rw [ByteArray.size_append]
    omega)
  have h2 := lmL_len st.x
  have h3 : (lmL st.x).length * (22 + 1) ≤ 35 * 23 := Nat.mul_le_mul_right _ h2
  show (jnT _ _).size ≤ _
  omega
theorem fin_no {a m : Nat} (h1 : 1 ≤ a) (h2 : a ≤ 5) (h3 : m ≤ 5) (h4 : ¬ 5 * m * a ≤ 100) : Ans (nwS a m) fT (nwS a m) noT ∧ ∃ o1 o2 : ByteArray, o1.size ≤ 1000000 ∧ o2.size ≤ 1000000 ∧ Ans (nwS a m) whT (nwS a m) o1 ∧ Ans (nwS a m) neT (nwS a m) o2 := by
  obtain ⟨hl, _⟩ := new_fin h1 h2 h3
  have hok := nwS_ok h1 h2 h3
  have hf : fiS (nwS a m) = none := fiS_many (by show ¬ 0 + (fnL (newL a m)).length ≤ 100; omega)
  refine ⟨?_, whO (nwS a m), nxO (nwS a m), ?_, ?_, ans_where (by decide) hok (by unfold wd0; rw [whT_w]; exact cm_wh), ans_next (by decide) hok (by unfold wd0; rw [neT_w]; exact cm_ne)⟩
  · have h := ans_finish (st := nwS a m) (t := fT) (by decide) hok (by unfold wd0; rw [fT_w]; exact cm_f)
    have e1 : fiSS (nwS a m) = nwS a m := by unfold fiSS; rw [hf]; rfl
    have e2 : fiO (nwS a m) = noT := by unfold fiO; rw [hf]
    rw [e1, e2] at h
    exact h
  · have := wh_size hok; omega
  · have := nx_size (nwS a m); omega
/-- the whole script -/
def fnT (a m : Nat) : ByteArray := ⟨#[108, 105, 110, 101, 32]⟩ ++ itT a ++ ⟨#[32]⟩ ++ itT m ++ ⟨#[10, 102, 105, 110, 105, 115, 104, 10, 119, 104, 101, 114, 101, 10, 110, 101, 120, 116, 10]⟩
theorem fn_exec {a m : Nat} (h1 : 1 ≤ a) (h2 : a ≤ 5) (h3 : m ≤ 5) (mm : Int) (w : World) (hW : WF mm w) (st : Ses) (o1 o2 o3 : ByteArray) (hm : st.x.m = m) (hp : st.pn = 0) (k1 : Ans (nwS a m) fT st o1) (k2 : Ans st whT st o2) (k3 : Ans st neT st o3) (z1 : o1.size ≤ 1000000) (z2 : o2.size ≤ 1000000) (z3 : o3.size ≤ 1000000) :
    Calls Tryz.prog 11 #[.string (fnT a m)] w fun e w' => e = .returned (.string (⟨#[111, 107, 10]⟩ ++ o1 ++ ⟨#[10]⟩ ++ o2 ++ ⟨#[10]⟩ ++ o3 ++ ⟨#[10]⟩ ++ exT m 0)) ∧ Below w.heap.size w w' := by
  obtain ⟨a1, a2, a3, a4⟩ := dg_nm (a := a) (by omega)
  obtain ⟨b1, b2, b3, b4⟩ := dg_nm (a := m) (by omega)
  have hs : Stp ses0 [(lnF (dgU a) (dgU m), okT), (fT, o1), (whT, o2), (neT, o3)] st := ⟨_, nw_line h1 h2 h3 ses0, _, k1, _, k2, _, k3, rfl⟩
  have q := execute_stp (fnT a m) mm w _ _ (by
      unfold fnT
      rw [a4, b4]
      show (5 + 1 + 1 + 1 + 19 : Nat) ≤ 500
      omega) hW (by
      unfold fnT
      rw [a4, b4]
      simp [lnsB, lnF, fT, whT, neT, chr]) (fun y hy => by
      simp only [List.mem_cons, List.not_mem_nil, or_false] at hy
      rcases hy with rfl | rfl | rfl | rfl
      · show (10 : UInt8) ∉ [108, 105, 110, 101, 32, dgU a, 32, dgU m]
        simp
        exact ⟨fun e => a3 e.symm, fun e => b3 e.symm⟩
      · show (10 : UInt8) ∉ fT.data.toList
        decide
      · show (10 : UInt8) ∉ whT.data.toList
        decide
      · show (10 : UInt8) ∉ neT.data.toList
        decide) (fun y hy => by
      simp only [List.mem_cons, List.not_mem_nil, or_false] at hy
      rcases hy with rfl | rfl | rfl | rfl
      · show okT.size ≤ 1000000
        decide
      · exact z1
      · exact z2
      · exact z3) hs (by omega) (by omega)
  refine q.mono ?_
  rintro e w' ⟨rfl, hb⟩
  refine ⟨?_, hb⟩
  rw [hm, hp]
  refine congrArg (fun z => Ending.returned (.string z)) (ba_ext ?_)
  simp [sayL, lnsB, okT]
end Go.Proofs.YtlkdmpfifpkpaaaGreatDoor
namespace Go.Proofs.YtlkdmpfifpkpaaaGreatDoor
open Go.RowKit

theorem jn_next (tx : Nat → ByteArray) {j : Nat} (h : 0 < j) : jnT tx (j + 1) = jnT tx j ++ ⟨#[32]⟩ ++ tx j := ba_ext (by rw [jn_snoc tx j h]; simp)
theorem jn_first (tx : Nat → ByteArray) {j : Nat} (h : ¬ 0 < j) : jnT tx (j + 1) = jnT tx j ++ tx j := by
  obtain rfl : j = 0 := by omega
  have h0 : jnT tx 0 = ⟨#[]⟩ := rfl
  rw [h0]
  refine ba_ext ?_
  unfold jnT
  show (Lib.join [_] [32]).toArray.toList = _
  rw [Lib.join_one, List.toList_toArray]
  simp
set_option linter.unusedSimpArgs false in
set_option maxRecDepth 100000 in
set_option maxHeartbeats 4000000 in
theorem lspaced_any (b off n c : Nat) (f : Nat → Int) (w : World) (hn : n ≤ 1000) (hf : ∀ k, k < n → 0 ≤ f k ∧ f k ≤ 1000000) (h : IC w b off n f) :
    Calls Tryz.prog 20 #[.slice (some ⟨b, off, none⟩) n c] w fun e w' => e = .returned (.string (spT f n)) ∧ Below w.heap.size w w' := by
  have HF := Lib.hid hf
  have HC := Lib.hid h
  have HB0 : Hid (Below w.heap.size w w) := Below.refl _ _
  have HTX : Hid (∀ k, jnT (fun i => itT (f i)) k = spT f k) := fun _ => rfl
  clear hf h
  go_enter Tryz.func20, Tryz.ntmps20
  go_wp2_with fail
  go_loopw [3, 4] (fun o i wr => ∃ j : Nat, j ≤ n ∧ i = .int .i64 j ∧ o = .string (spT f j) ∧ Hid (Below w.heap.size w wr)) (fun _ i _ => n - (intOf i).toNat)
  case atStart => exact ⟨0, Nat.zero_le _, rfl, rfl, HB0⟩
  case round =>
    obtain ⟨j, hj, rfl, rfl, HBR⟩ := hrel
    by_cases hlt : j < n
    · have hji : (j : Int) < (n : Int) := by omega
      have hck := (HC.out.keep HBR.out).at j hlt
      have hfj := HF.out j hlt
      have hss : (spT f j).size ≤ 100000 := by
        have h1 := jn_size (tx := fun i => itT (f i)) (n := j) (B := 21) (fun i hi => by have := HF.out i (by omega); exact itT_size _ (by omega) (by omega))
        show (jnT _ _).size ≤ _
        omega
      have hts := itT_size (f j) (by omega) (by omega)
      have HN1 : Hid (0 < j → spT f (j + 1) = spT f j ++ ⟨#[32]⟩ ++ itT (f j)) := fun h => jn_next (fun i => itT (f i)) h
      have HN0 : Hid (¬ 0 < j → spT f (j + 1) = spT f j ++ itT (f j)) := fun h => jn_first (fun i => itT (f i)) h
      have HDG : Hid (∀ W, Calls Tryz.prog 19 #[.int .i64 (f j)] W fun e w' => e = .returned (.string (itT (f j))) ∧ Below W.heap.size W w') := fun W => digits_val _ W hfj.1 hfj.2
      clear hfj
      generalize f j = fj at *
      generalize itT fj = tt at *
      generalize spT f j = ss at *
      by_cases h0 : 0 < j
      · have h0i : (0 : Int) < (j : Int) := by omega
        have HNN := Lib.hid (HN1.out h0)
        go_wp2_with fail
        refine (HDG.out _).mono ?_
        rintro e wd ⟨rfl, hbd⟩
        have HBD := Lib.hid (HBR.out.trans (hbd.mono HBR.out.size))
        clear hbd hck
        go_wp2_with fail
        go_roundw
        case rel => exact ⟨j + 1, by omega, by go_num, by rw [HNN.out], HBD⟩
        case measure => simp [intOf]; omega
      · have h0i : ¬ (0 : Int) < (j : Int) := by omega
        have HNN := Lib.hid (HN0.out h0)
        go_wp2_with fail
        refine (HDG.out _).mono ?_
        rintro e wd ⟨rfl, hbd⟩
        have HBD := Lib.hid (HBR.out.trans (hbd.mono HBR.out.size))
        clear hbd hck
        go_wp2_with fail
        go_roundw
        case rel => exact ⟨j + 1, by omega, by go_num, by rw [HNN.out], HBD⟩
        case measure => simp [intOf]; omega
    · obtain rfl : j = n := by omega
      go_wp2_with fail
      go_ret
      exact ⟨rfl, HBR.out⟩
end Go.Proofs.YtlkdmpfifpkpaaaGreatDoor
namespace Go.Proofs.YtlkdmpfifpkpaaaGreatDoor
open Go.RowKit

theorem sameInts_nil (w : World) :
    Calls Tryz.prog 44 #[.slice none 0 0, .slice none 0 0] w fun e w' => e = .returned (.bool true) ∧ w = w' := by
  go_enter Tryz.func44, Tryz.ntmps44
  go_wp2_with fail
  go_loop [5] (fun i => i = .int .i64 0) (fun _ => 0)
  case atStart => rfl
  case round =>
    subst hrel
    go_wp2_with fail
    go_ret
    exact ⟨rfl, rfl⟩
set_option linter.unusedSimpArgs false in
theorem sameLine_nil (w : World) :
    Calls Tryz.prog 18 #[nilLn, nilLn] w fun e w' => e = .returned (.bool true) ∧ Below w.heap.size w w' := by
  unfold nilLn
  have HB0 : Hid (Below w.heap.size w ((w.alloc (.cells #[.slice none 0 0, .slice none 0 0] 31)).alloc (.cells #[.slice none 0 0, .slice none 0 0] 31))) := (below_all _ _).alloc (by simp) _
  have HA0 : Hid (Bx ((w.alloc (.cells #[.slice none 0 0, .slice none 0 0] 31)).alloc (.cells #[.slice none 0 0, .slice none 0 0] 31)) w.heap.size 31 #[.slice none 0 0, .slice none 0 0]) := (Bx.new _ _ _).alloc _
  have HC0 : Hid (Bx ((w.alloc (.cells #[.slice none 0 0, .slice none 0 0] 31)).alloc (.cells #[.slice none 0 0, .slice none 0 0] 31)) (w.heap.size + 1) 31 #[.slice none 0 0, .slice none 0 0]) := Bx.newAt (by simp)
  go_enter Tryz.func18, Tryz.ntmps18
  have hac := HA0.out.cell
  have hcc := HC0.out.cell
  go_wp2_with fail
  refine (sameInts_nil _).mono ?_
  rintro e w' ⟨rfl, rfl⟩
  go_wp2_with fail
  go_loop [5] (fun i => i = .int .i64 0) (fun _ => 0)
  case atStart => rfl
  case round =>
    subst hrel
    go_wp2_with fail
    go_ret
    exact ⟨rfl, HB0.out⟩
theorem fin_text {m : Nat} (x y z : ByteArray) : (⟨#[111, 107, 10]⟩ ++ (⟨#[109, 111, 118, 101, 115, 32]⟩ ++ x) ++ ⟨#[10]⟩ ++ y ++ ⟨#[10]⟩ ++ z ++ ⟨#[10]⟩ ++ exT m 0 : ByteArray) = ⟨#[111, 107, 10, 109, 111, 118, 101, 115, 32]⟩ ++ x ++ ⟨#[10]⟩ ++ y ++ ⟨#[10]⟩ ++ z ++ ⟨#[10]⟩ ++ exT m 0 := ba_ext (by simp)
theorem exT_size {a b : Nat} (ha : a < 100) (hb : b < 100) : (exT a b).size ≤ 100 := by
  have h1 := dd_size ha
  have h2 := dd_size hb
  unfold exT
  simp only [ByteArray.size_append]
  have e1 : (⟨#[116, 114, 97, 105, 110, 115, 32]⟩ : ByteArray).size = 7 := rfl
  have e2 : (⟨#[32, 112, 97, 116, 104, 115, 32]⟩ : ByteArray).size = 7 := rfl
  have e3 : (⟨#[10]⟩ : ByteArray).size = 1 := rfl
  omega
/-- Execute at a script that finishes -/
theorem exec_fin {a m : Nat} (h1 : 1 ≤ a) (h2 : a ≤ 5) (h3 : m ≤ 5) (h4 : 5 * m * a ≤ 100) (mm : Int) (w : World) (hW : WF mm w) :
    Calls Tryz.prog 11 #[.string (fnT a m)] w fun e w' => e = .returned (.string (⟨#[111, 107, 10, 109, 111, 118, 101, 115, 32]⟩ ++ itT ((5 * m * a : Nat) : Int) ++ ⟨#[10]⟩ ++ spT (fun _ => 2 * (a : Int)) m ++ ⟨#[10]⟩ ++ jnT nxD a ++ ⟨#[10]⟩ ++ exT m 0)) ∧ Below w.heap.size w w' := by
  obtain ⟨st, hs, hm, hp, k1, k2, k3⟩ := fin_says h1 h2 h3 h4
  have z1 := itT_size ((5 * m * a : Nat) : Int) (by omega) (by omega)
  have z2 := jn_size (tx := fun _ => itT (2 * (a : Int))) (n := m) (B := 21) (fun i hi => itT_size _ (by omega) (by omega))
  have z3 := jn_size (tx := nxD) (n := a) (B := 22) (fun i hi => by
    have := itT_size (i : Int) (by omega) (by omega)
    unfold nxD
    have hc : (chr 111).size = 1 := rfl
    rw [ByteArray.size_append, hc]
    omega)
  have z2' : (spT (fun _ => 2 * (a : Int)) m).size ≤ m * (21 + 1) := z2
  refine (fn_exec h1 h2 h3 mm w hW st _ _ _ hm hp k1 k2 k3 (by rw [ByteArray.size_append]; show 6 + _ ≤ _; omega) (by omega) (by omega)).mono ?_
  rintro e w' ⟨rfl, hb⟩
  exact ⟨by rw [fin_text], hb⟩
/-- Execute at a script that wants too many moves -/
theorem exec_fno {a m : Nat} (h1 : 1 ≤ a) (h2 : a ≤ 5) (h3 : m ≤ 5) (h4 : ¬ 5 * m * a ≤ 100) (mm : Int) (w : World) (hW : WF mm w) :
    Calls Tryz.prog 11 #[.string (fnT a m)] w fun e w' => (∃ o : ByteArray, e = .returned (.string o) ∧ 6 ≤ o.size ∧ o.extract 0 6 = ⟨#[111, 107, 10, 110, 111, 10]⟩) ∧ Below w.heap.size w w' := by
  obtain ⟨k1, o1, o2, z1, z2, k2, k3⟩ := fin_no h1 h2 h3 h4
  refine (fn_exec h1 h2 h3 mm w hW (nwS a m) _ _ _ rfl rfl k1 k2 k3 (by decide) z1 z2).mono ?_
  rintro e w' ⟨rfl, hb⟩
  refine ⟨⟨_, rfl, ?_, ?_⟩, hb⟩
  · simp only [ByteArray.size_append]
    have e1 : (⟨#[111, 107, 10]⟩ : ByteArray).size = 3 := rfl
    have e2 : noT.size = 2 := rfl
    have e3 : (⟨#[10]⟩ : ByteArray).size = 1 := rfl
    omega
  · refine ba_ext ?_
    rw [ext_list]
    simp [noT]
/-- between two places -/
structure PlI (w wr : World) (g cap j : Nat) (v : Int) : Prop where
  ow : Own wr g cap j 1 3 (fun _ => .int .i64 v)
  gz : w.heap.size ≤ g
  bl : Below w.heap.size w wr
theorem PlI.push {w wr wa : World} {g cap g' c' j : Nat} {v : Int} (h : PlI w wr g cap j v) (HA : Own wa g' c' (j + 1) 1 3 (fun _ => .int .i64 v)) (hgr : wr.grownBy wa (some g)) (hd : (g' = g ∧ c' = cap) ∨ wr.heap.size < g') : PlI w wa g' c' (j + 1) v := by
  have hgz := h.gz
  have hbs := h.bl.size
  refine ⟨HA, ?_, h.bl.trans (below_of_grown hgr hgz hbs)⟩
  rcases hd with q | q <;> omega
set_option linter.unusedSimpArgs false in
set_option maxRecDepth 100000 in
set_option maxHeartbeats 4000000 in
theorem lawFinish_any (mm : Int) (ao : Option Addr) (n c : Nat) (w : World) (hW : WF mm w) (hB : BSl w ao n) (hnc : n ≤ c) (hn : n ≤ 9223372036854775807) :
    Calls Tryz.prog 6 #[.slice ao n c] w fun e w' => e = .returned (.bool true) ∧ Below w.heap.size w w' := by
  have HBS := Lib.hid hB
  have HWF := Lib.hid hW
  clear hB hW
  by_cases hlong : 1048576 < n
  · go_enter Tryz.func6, Tryz.ntmps6
    go_wp2_with fail
    go_ret
    exact ⟨rfl, Below.refl _ _⟩
  go_enter Tryz.func6, Tryz.ntmps6
  go_wp2_with fail
  refine (drawLNew_any ao n c _ hnc hn HBS.out).mono ?_
  rintro e w1 ⟨a, t, rfl, ha, ht, hb1⟩
  have HB1 := Lib.hid hb1
  clear hb1
  cases ho : nwO (a : Int) ((t : Int) - 1) with
  | none =>
    have HO := Lib.hid ho
    clear ho
    go_wp2_with fail
    refine (lineNew_any _ _ _ (by omega)).mono ?_
    rintro e w2 ⟨hb2, h2⟩
    rcases h2 with ⟨_, rfl⟩ | ⟨_, _, h, _⟩
    rotate_left
    · rw [HO.out] at h; cases h
    have HB2 := Lib.hid (HB1.out.trans (hb2.mono HB1.out.size))
    clear hb2
    unfold nilLn
    have HX2 : Hid (Bx (w2.alloc (.cells #[.slice none 0 0, .slice none 0 0] 31)) w2.heap.size 31 #[.slice none 0 0, .slice none 0 0]) := Bx.new _ _ _
    have HB3 := Lib.hid (HB2.out.alloc HB2.out.size (.cells #[.slice none 0 0, .slice none 0 0] 31))
    go_wp2_with fail
    refine (specLineNew_any _ _ _).mono ?_
    rintro e w4 ⟨hb4, h4⟩
    rcases h4 with ⟨_, rfl⟩ | ⟨_, _, h, _⟩
    rotate_left
    · rw [HO.out] at h; cases h
    have HX4 := Lib.hid (HX2.out.below hb4 HX2.out.lt)
    have HB4 := Lib.hid (HB3.out.trans (hb4.mono HB3.out.size))
    clear hb4
    unfold nilLn
    have hl4 := HX4.out.lt
    have hxc := HX4.out.cell
    have HSN := fun W => Lib.hid (sameLine_nil W)
    unfold nilLn at HSN
    have HB5 := Lib.hid (HB4.out.alloc HB4.out.size (.cells #[.slice none 0 0, .slice none 0 0] 31))
    have HX5 := Lib.hid (HX4.out.alloc (.cells #[.slice none 0 0, .slice none 0 0] 31))
    have HY5 : Hid (Bx (w4.alloc (.cells #[.slice none 0 0, .slice none 0 0] 31)) w4.heap.size 31 #[.slice none 0 0, .slice none 0 0]) := Bx.new _ _ _
    go_wp2_with fail
    refine (HSN _).out.mono ?_
    rintro e w6 ⟨rfl, hb6⟩
    have HX6 := Lib.hid (HX5.out.below hb6 HX5.out.lt)
    have HY6 := Lib.hid (HY5.out.below hb6 HY5.out.lt)
    have HB6 := Lib.hid (HB5.out.trans (hb6.mono HB5.out.size))
    clear hb6 hxc
    have hxc := HX6.out.cell
    have hyc := HY6.out.cell
    go_wp2_with fail
    refine (HSN _).out.mono ?_
    rintro e w7 ⟨rfl, hb7⟩
    have HB7 := Lib.hid (HB6.out.trans (hb7.mono HB6.out.size))
    clear hb7
    go_wp2_with fail
    go_ret
    exact ⟨rfl, HB7.out⟩
  | some y =>
    have hy : inB (a : Int) 1 5 = true ∧ inB ((t : Int) - 1) 0 5 = true ∧ newL a (t - 1) = y := by
      unfold nwO at ho
      split at ho
      · rename_i h
        rw [Bool.and_eq_true] at h
        cases ho
        refine ⟨h.1, h.2, ?_⟩
        congr 1
        omega
      · cases ho
    obtain ⟨h1, h2, h3⟩ := hy
    have h1' := inB_true.1 h1
    have h2' := inB_true.1 h2
    obtain ⟨m, rfl⟩ : ∃ m : Nat, t = m + 1 := ⟨t - 1, by omega⟩
    rw [show ((m + 1 : Nat) : Int) - 1 = (m : Int) by omega] at ho
    have HO := Lib.hid ho
    rw [show m + 1 - 1 = m by omega] at h3
    have hm5 : m ≤ 5 := by omega
    have ha5 : 1 ≤ a ∧ a ≤ 5 := by omega
    have HYN : Hid (y.n = a ∧ y.m = m) := by show _ ∧ _; rw [← h3]; exact ⟨rfl, rfl⟩
    have hyb : y.n ≤ 5 ∧ y.m ≤ 5 := by rw [← h3]; exact ⟨ha5.2, hm5⟩
    have hp : 5 * m * a ≤ 125 := Nat.le_trans (Nat.mul_le_mul (Nat.mul_le_mul_left 5 hm5) ha5.2) (by decide)
    have hq : ∃ q : Nat, 5 * m * a = q := ⟨_, rfl⟩
    obtain ⟨q, hq⟩ := hq
    have HQ := Lib.hid hq
    have hqi : 5 * (a : Int) * (m : Int) = (q : Int) := by rw [← hq, Int.natCast_mul, Int.natCast_mul, Int.mul_assoc, Int.mul_assoc, Int.mul_comm (a : Int)]; rfl
    rw [hq] at hp
    clear ho h1 h2 h3 h1' h2' hq
    go_wp2_with fail
    refine (lineNew_any _ _ _ (by omega)).mono ?_
    rintro e w2 h2
    obtain ⟨v, rfl, hl2, hb2⟩ := h2.some HO.out
    have HB2 := Lib.hid (HB1.out.trans (hb2.mono HB1.out.size))
    have HL2 := Lib.hid hl2
    obtain ⟨g1, c1, g2, c2, rfl, _⟩ := hl2
    clear hb2 h2
    have HM3 : Hid (LbM w (w2.alloc (.cells #[.slice (some ⟨g1, 0, none⟩) y.n c1, .slice (some ⟨g2, 0, none⟩) y.m c2] 31)) w2.heap.size g1 c1 g2 c2 y) := LbM.new HB2.out HL2.out (by omega) (by omega)
    go_wp2_with fail
    refine (specLineNew_any _ _ _).mono ?_
    rintro e w4 h4
    obtain ⟨v, rfl, hl4, hb4⟩ := h4.some HO.out
    have HM4 := Lib.hid (HM3.out.below hb4)
    have HL4 := Lib.hid hl4
    obtain ⟨p1, e1, p2, e2, rfl, _⟩ := hl4
    clear hb4 h4
    have HM5 : Hid (LbM w (w4.alloc (.cells #[.slice (some ⟨p1, 0, none⟩) y.n e1, .slice (some ⟨p2, 0, none⟩) y.m e2] 31)) w2.heap.size g1 c1 g2 c2 y) := HM4.out.alloc _
    have HY5 : Hid (LbM w (w4.alloc (.cells #[.slice (some ⟨p1, 0, none⟩) y.n e1, .slice (some ⟨p2, 0, none⟩) y.m e2] 31)) w4.heap.size p1 e1 p2 e2 y) := LbM.new HM4.out.bl HL4.out (by omega) (by omega)
    have HSL := Lib.hid (sameLine_same g1 0 c1 g2 0 c2 p1 0 e1 p2 0 e2 y _ (by omega) (by omega) (BkC.of_own HM5.out.bs) (IC.of_own HM5.out.ts) (BkC.of_own HY5.out.bs) (IC.of_own HY5.out.ts))
    have hxc := HM4.out.box.cell
    have hxl := HM4.out.box.lt
    have HDA : Hid (∀ W, Calls Tryz.prog 19 #[.int .i64 a] W fun e w' => e = .returned (.string (itT a)) ∧ Below W.heap.size W w') := fun W => digits_val _ W (by omega) (by omega)
    have HDM : Hid (∀ W, Calls Tryz.prog 19 #[.int .i64 m] W fun e w' => e = .returned (.string (itT m)) ∧ Below W.heap.size W w') := fun W => digits_val _ W (by omega) (by omega)
    have hia := itT_size (a : Int) (by omega) (by omega)
    have him := itT_size (m : Int) (by omega) (by omega)
    have hw5 : IntKind.i64.wrap (5 * (a : Int)) = 5 * (a : Int) := IntWalk.i64_in _ (by omega)
    have hwq : IntKind.i64.wrap (q : Int) = (q : Int) := IntWalk.i64_in _ (by omega)
    go_wp2_with fail
    refine HSL.out.mono ?_
    rintro e w6 ⟨rfl, hb6⟩
    have HM6 := Lib.hid (HM5.out.below hb6)
    clear hb6 hxc hxl HSL HM5 HY5 HL4 HM4 HM3 HL2
    have hxc := HM6.out.box.cell
    go_wp2_with fail
    refine (HDA.out _).mono ?_
    rintro e w7 ⟨rfl, hb⟩
    have HM7 := Lib.hid (HM6.out.below hb)
    clear hb hxc
    have hxc := HM7.out.box.cell
    go_wp2_with fail
    refine (HDM.out _).mono ?_
    rintro e w8 ⟨rfl, hb⟩
    have HM8 := Lib.hid (HM7.out.below hb)
    clear hb hxc
    have hxc := HM8.out.box.cell
    by_cases hbig : q ≤ 100
    · have hbi : ¬ (100 : Int) < (q : Int) := by omega
      have HEX : Hid (∀ W, WF mm W → Calls Tryz.prog 11 #[.string (⟨#[108, 105, 110, 101, 32]⟩ ++ itT a ++ ⟨#[32]⟩ ++ itT m ++ ⟨#[10, 102, 105, 110, 105, 115, 104, 10, 119, 104, 101, 114, 101, 10, 110, 101, 120, 116, 10]⟩)] W fun e w' => e = .returned (.string (⟨#[111, 107, 10, 109, 111, 118, 101, 115, 32]⟩ ++ itT (q : Int) ++ ⟨#[10]⟩ ++ spT (fun _ => 2 * (a : Int)) m ++ ⟨#[10]⟩ ++ jnT nxD a ++ ⟨#[10]⟩ ++ exT m 0)) ∧ Below W.heap.size W w') := fun W hW => by
        have h := exec_fin ha5.1 ha5.2 hm5 (by rw [HQ.out]; exact hbig) mm W hW
        rw [HQ.out] at h
        exact h
      have HDQ : Hid (∀ W, Calls Tryz.prog 19 #[.int .i64 (q : Int)] W fun e w' => e = .returned (.string (itT (q : Int))) ∧ Below W.heap.size W w') := fun W => digits_val _ W (by omega) (by omega)
      have HEL : Hid (∀ W, Calls Tryz.prog 21 #[.int .i64 m, .int .i64 0] W fun e w' => e = .returned (.string (exT m 0)) ∧ Below W.heap.size W w') := fun W => endLine_any m 0 W (by omega) (by omega)
      have HSP : Hid (∀ W g cap, Own W g cap m 1 3 (fun _ => .int .i64 (2 * (a : Int))) → Calls Tryz.prog 20 #[.slice (some ⟨g, 0, none⟩) m cap] W fun e w' => e = .returned (.string (spT (fun _ => 2 * (a : Int)) m)) ∧ Below W.heap.size W w') := fun W g cap h => lspaced_any g 0 m cap (fun _ => 2 * (a : Int)) W (by omega) (fun _ _ => by omega) (IC.of_own h)
      have hiq := itT_size (q : Int) (by omega) (by omega)
      have hisp : (spT (fun _ => 2 * (a : Int)) m).size ≤ 1000 := by
        have h : (spT (fun _ => 2 * (a : Int)) m).size ≤ m * (21 + 1) := jn_size (tx := fun _ => itT (2 * (a : Int))) (n := m) (B := 21) (fun i hi => itT_size _ (by omega) (by omega))
        omega
      have hinx : ∀ j : Nat, j ≤ a → (jnT nxD j).size ≤ 1000 := fun j hj => by
        have h := jn_size (tx := nxD) (n := j) (B := 22) (fun i hi => by
          have := itT_size (i : Int) (by omega) (by omega)
          unfold nxD
          have hc : (chr 111).size = 1 := rfl
          rw [ByteArray.size_append, hc]
          omega)
        omega
      have hie := exT_size (a := m) (b := 0) (by omega) (by omega)
      have hw2 : IntKind.i64.wrap (2 * (a : Int)) = 2 * (a : Int) := IntWalk.i64_in _ (by omega)
      go_wp2_with fail
      have HP0 : Hid (PlI w8 (w8.alloc (.cells #[] 3)) w8.heap.size 0 0 (2 * (a : Int))) := ⟨own_empty _ _ _ _, Nat.le_refl _, below_all _ _⟩
      go_loopw [10, 12] (fun p i wr => ∃ j g cap : Nat, j ≤ m ∧ i = .int .i64 j ∧ p = .slice (some ⟨g, 0, none⟩) j cap ∧ Hid (PlI w8 wr g cap j (2 * (a : Int)))) (fun _ i _ => m - (intOf i).toNat)
      case atStart => exact ⟨0, w8.heap.size, 0, Nat.zero_le _, rfl, rfl, HP0⟩
      case round =>
        obtain ⟨j, g, cap, hj, rfl, rfl, HP⟩ := hrel
        by_cases hlt : j < m
        · have hji : (j : Int) < (m : Int) := by omega
          go_wp2_with (at_builtin; refine wpList_pushI elInt rfl (.tmp 78) (.tmp 81) (by rfl) (f := fun _ => 2 * (a : Int)) HP.out.ow (by rfl) (by rfl) (by rfl) (by omega) ?_; intro g' c' wa HA hgr hd; have HP3 := Lib.hid (HP.out.push HA hgr hd); clear HA hgr hd)
          go_roundw
          case rel => exact ⟨j + 1, g', c', by omega, by go_num, by simp, HP3⟩
          case measure => simp [intOf]; omega
        · obtain rfl : j = m := by omega
          have HM9 := Lib.hid (HM8.out.below HP.out.bl)
          go_wp2_with fail
          have HBR0 : Hid (Below wr.heap.size wr wr) := Below.refl _ _
          go_loopw [11, 13] (fun o i wz => ∃ k : Nat, k ≤ a ∧ i = .int .i64 k ∧ o = .string (jnT nxD k) ∧ Hid (Below wr.heap.size wr wz)) (fun _ i _ => a - (intOf i).toNat)
          case atStart => exact ⟨0, Nat.zero_le _, rfl, rfl, HBR0⟩
          case round =>
            obtain ⟨k, hk, rfl, rfl, HBZ⟩ := hrel
            by_cases hka : k < a
            · have hki : (k : Int) < (a : Int) := by omega
              have hnx := hinx k hk
              have hik := itT_size (k : Int) (by omega) (by omega)
              have HN1 : Hid (0 < k → jnT nxD (k + 1) = jnT nxD k ++ ⟨#[32]⟩ ++ itT (k : Int) ++ ⟨#[111]⟩) := fun h => by
                rw [jn_next nxD h]
                exact ba_ext (by simp [nxD, chr])
              have HN0 : Hid (¬ 0 < k → jnT nxD (k + 1) = jnT nxD k ++ itT (k : Int) ++ ⟨#[111]⟩) := fun h => by
                rw [jn_first nxD h]
                exact ba_ext (by simp [nxD, chr])
              have HDK : Hid (∀ W, Calls Tryz.prog 19 #[.int .i64 (k : Int)] W fun e w' => e = .returned (.string (itT (k : Int))) ∧ Below W.heap.size W w') := fun W => digits_val _ W (by omega) (by omega)
              generalize jnT nxD k = nn at *
              generalize itT (k : Int) = tt at *
              by_cases h0 : 0 < k
              · have h0i : (0 : Int) < (k : Int) := by omega
                have HNN := Lib.hid (HN1.out h0)
                go_wp2_with fail
                refine (HDK.out _).mono ?_
                rintro e wd ⟨rfl, hbd⟩
                have HBD := Lib.hid (HBZ.out.trans (hbd.mono HBZ.out.size))
                clear hbd
                go_wp2_with fail
                go_roundw
                case rel => exact ⟨k + 1, by omega, by go_num, by rw [HNN.out], HBD⟩
                case measure => simp [intOf]; omega
              · have h0i : ¬ (0 : Int) < (k : Int) := by omega
                have HNN := Lib.hid (HN0.out h0)
                go_wp2_with fail
                refine (HDK.out _).mono ?_
                rintro e wd ⟨rfl, hbd⟩
                have HBD := Lib.hid (HBZ.out.trans (hbd.mono HBZ.out.size))
                clear hbd
                go_wp2_with fail
                go_roundw
                case rel => exact ⟨k + 1, by omega, by go_num, by rw [HNN.out], HBD⟩
                case measure => simp [intOf]; omega
            · obtain rfl : k = a := by omega
              have hnx := hinx k (Nat.le_refl _)
              have HMZ := Lib.hid (HM9.out.below HBZ.out)
              have HOZ := Lib.hid (Own.below HP.out.ow HBZ.out HP.out.ow.lt)
              generalize jnT nxD k = nn at *
              generalize spT (fun _ => 2 * (k : Int)) j = pp at *
              generalize exT j 0 = ee at *
              go_wp2_with fail
              refine (HEX.out _ (HWF.out.below HMZ.out.bl)).mono ?_
              rintro e wa ⟨rfl, hb⟩
              have HMa := Lib.hid (HMZ.out.below hb)
              have HOa := Lib.hid (HOZ.out.below hb HOZ.out.lt)
              clear hb hxc
              go_wp2_with fail
              refine (HDQ.out _).mono ?_
              rintro e wb ⟨rfl, hb⟩
              have HMb := Lib.hid (HMa.out.below hb)
              have HOb := Lib.hid (HOa.out.below hb HOa.out.lt)
              clear hb
              go_wp2_with fail
              refine (HSP.out _ g cap HOb.out).mono ?_
              rintro e wc ⟨rfl, hb⟩
              have HMc := Lib.hid (HMb.out.below hb)
              clear hb
              go_wp2_with fail
              refine (HEL.out _).mono ?_
              rintro e wd ⟨rfl, hb⟩
              have HMd := Lib.hid (HMc.out.below hb)
              have hxc := HMd.out.box.cell
              have hyk : (y.n : Int) = (k : Int) := by have := HYN.out.1; omega
              clear hb
              go_wp2_with fail
              go_ret
              exact ⟨rfl, HMd.out.bl⟩
    · have hbi : (100 : Int) < (q : Int) := by omega
      have HEX : Hid (∀ W, WF mm W → Calls Tryz.prog 11 #[.string (⟨#[108, 105, 110, 101, 32]⟩ ++ itT a ++ ⟨#[32]⟩ ++ itT m ++ ⟨#[10, 102, 105, 110, 105, 115, 104, 10, 119, 104, 101, 114, 101, 10, 110, 101, 120, 116, 10]⟩)] W fun e w' => (∃ o : ByteArray, e = .returned (.string o) ∧ 6 ≤ o.size ∧ o.extract 0 6 = ⟨#[111, 107, 10, 110, 111, 10]⟩) ∧ Below W.heap.size W w') := fun W hW => exec_fno ha5.1 ha5.2 hm5 (by rw [HQ.out]; exact hbig) mm W hW
      go_wp2_with fail
      refine (HEX.out _ (HWF.out.below HM8.out.bl)).mono ?_
      rintro e w9 ⟨⟨o, rfl, ho6, hext⟩, hb⟩
      have HB9 := Lib.hid (HM8.out.below hb).bl
      have ho6i : (6 : Int) ≤ (o.size : Int) := by omega
      clear hb hxc
      go_wp2_with fail
      go_ret
      exact ⟨rfl, HB9.out⟩
end Go.Proofs.YtlkdmpfifpkpaaaGreatDoor
namespace Go.Proofs.YtlkdmpfifpkpaaaGreatDoor
open Go.RowKit

theorem laidOut : laidOutB Tryz.prog = true := by kernel_rfl
theorem own : ownKnob Tryz.prog.godebug = none := by kernel_rfl
theorem cellsU8 : Tryz.prog.cellsOf 5 = 1 := by kernel_rfl

/-- a slice of bytes that came in -/
theorem open_BS {H : Type} {enc : TypeId × Value → H} {w : World} {base : Nat} {spare : Nat → Bool} {held : Bool} {fuel : Nat} {cs : List Value} {y : DataW H × List MemPlace}
    (h : DataW.trod enc Tryz.prog w base spare held fuel 22 cs = some y) (hw : ∀ b, spare b = true) : ∃ ao n c, cs = [.slice ao n c] ∧ BSl w ao n ∧ n ≤ c ∧ n ≤ 9223372036854775807 := by
  rcases Go.ChangeShapes.open_ints Tryz.underlying22 Tryz.underlying5 cellsU8 h with ⟨hcs, hx⟩ | ⟨a, len', cap', zs, hcs, _, hl, hm, hz, hx, hcell, hwz⟩
  · exact ⟨none, 0, 0, hcs, .inl rfl, Nat.le_refl _, by omega⟩
  · rw [if_pos (hw _)] at hz
    unfold maxLen at hm
    refine ⟨some a, len', cap', hcs, ?_, hl, by omega⟩
    by_cases h0 : len' = 0
    · exact .inl h0
    · obtain ⟨b, o, s⟩ := a
      have c0 := hcell 0 (by omega)
      have hs : s = none := by
        cases s with
        | none => rfl
        | some s =>
          exfalso
          revert c0
          simp only [World.cell?, Addr.add]
          split <;> simp
      subst hs
      refine .inr ⟨b, o, fun i => zs[i]?.getD 0, rfl, fun k hk => ⟨?_, range_u8 hwz k⟩⟩
      rw [← addr_add, hcell k (by omega), List.getD_eq_getElem?_getD]
end Go.Proofs.YtlkdmpfifpkpaaaGreatDoor
namespace Go.Proofs.YtlkdmpfifpkpaaaGreatDoor
open Go.RowKit Go.ChangeShapes Go.WideShapes

/-- the variables that each row of this seat lists -/
def lRow : List (String × DataW Unit) := Rows.fnExecuteBookRow.laid
theorem gPowT : (Tryz.prog.globals[1]?).map (·.type) = some 161 := by kernel_rfl
set_option maxRecDepth 100000 in
theorem laid_met (os : Os) (args : Array Value) : laidMetH Tryz.prog lRow ((World.laidAll Tryz.prog os lRow).forCall (fun _ _ => 0) ⟨#[], args, []⟩).memory := by
  rw [MakeChecks.laidMetH_plain _ _ _ (by kernel_rfl)]
  exact laidMet_laidAll _ (by kernel_rfl) (by kernel_rfl)
theorem wf_of {W : World} (h : laidMetH Tryz.prog lRow W) (hsh : W.ShapedOpen Tryz.prog) : ∃ m, WF m W := by
  rw [MakeChecks.laidMetH_plain _ _ _ (by kernel_rfl)] at h
  have h1 := h.filter (fun x => x.1 == "internal/strconv.uint64pow10")
  have h2 : lRow.filter (fun x => x.1 == "internal/strconv.uint64pow10") = [("internal/strconv.uint64pow10", Lib.tabData .u64 Lib.pow10Tab)] := by kernel_rfl
  rw [h2] at h1
  obtain ⟨m, hm⟩ := cell_of_shapedOpen_int (g := 0) (t := 3) (zero := #[.int .i64 0]) hsh (of_decide_eq_true (by kernel_rfl)) (by kernel_rfl) rfl (by kernel_rfl) (by kernel_rfl) Tryz.underlying3
  exact ⟨m, hm, Lib.tabIs_of_head gPow gPowT Tryz.underlying161 Tryz.underlying142 (by kernel_rfl) (by kernel_rfl) h1⟩
set_option maxRecDepth 100000 in
/-- the wrap of a tied row: the contract is handed what the walks ask of the world -/
theorem cardLift {H : Type} {enc : TypeId × Value → H} {os : Os} {f : FuncId} {fn : Func} {s : ChangeSpec} {conds : List PathCond} {apart fresh handsOn again : Bool}
    (started : os.Started) (noInit : Tryz.prog.inits.idxOf? f = none) (hfn : Tryz.prog.funcs[f]? = some fn)
    (witness : ∃ (w : World) (tape : Tape) (i : Input), w.os = os ∧ (w.forCall tape i).Shaped Tryz.prog ∧ i.vars = [] ∧ Input.okWide Tryz.prog (w.forCall tape i) .any w.heap.size f i ∧
      ((s.pre enc Tryz.prog fn conds apart (w.forCall tape i).memory i.args ∧ laidMetH Tryz.prog lRow (w.forCall tape i).memory) ∧ sizedMet enc Tryz.prog fn (OpenSpec.ofChange s) apart (w.forCall tape i).memory i.args) ∧ ({} : Assume).holds Tryz.prog (lone (Frame.enter Tryz.prog f i.args .normal) [] (w.forCall tape i)))
    (contract : ∀ (W : World) (m : Int) (base : Nat) (args : Array Value) (ds gs : List (DataW H)) (before : List MemPlace),
      (∀ (j : Nat) t v, fn.params[j]? = some t → args[j]? = some v → Value.okWide Tryz.prog W .any base t v) →
      DataW.Whole enc Tryz.prog fn.params.toList s.vars apart W args.toList ds gs before → WF m W →
      Calls Tryz.prog f args W fun e W' => ∃ v, e = .returned v ∧ s.post enc Tryz.prog fn apart fresh handsOn again W args v W') :
    ReturnsInHanded {} Tryz.checked os f .any (fun w args => (s.pre enc Tryz.prog fn conds apart w args ∧ laidMetH Tryz.prog lRow w) ∧ sizedMet enc Tryz.prog fn (OpenSpec.ofChange s) apart w args) (s.post enc Tryz.prog fn apart fresh handsOn again) := by
  refine returnsInHanded_of_calls own started noInit witness ?_
  intro w tape i _ hsh _ hok hpre _
  obtain ⟨_, _, _, fn', hfn', _, _, _, _, hval⟩ := hok
  obtain rfl : fn' = fn := Option.some.inj (hfn'.symm.trans hfn)
  obtain ⟨⟨⟨ds, gs, before, hw, _⟩, hl⟩, _⟩ := hpre
  have hw' := DataW.Whole.of_heap (w' := w.forCall tape i) (by rfl) hw
  obtain ⟨m, hm⟩ := wf_of (laidMetH.of_heap (w' := w.forCall tape i) (by rfl) hl) hsh
  refine (contract (w.forCall tape i) m w.heap.size i.args ds gs before hval hw' hm).mono fun e W' ⟨v, he, hp⟩ => ?_
  subst he
  exact ChangeSpec.post_blind hp
end Go.Proofs.YtlkdmpfifpkpaaaGreatDoor
