/-
  Parts of the proof of fnExecuteBook_proved: Jk Jl Kf Kg Jm Jn. No condition.
-/
import Derived.Laws.BitsAllLaws
import Derived.Deep.DeepCutAuto
import Derived.Maps.AppendAt
import Derived.Lib.ItoaLen
import Derived.RangeFuncNested
import Derived.RangeFuncBound
import Derived.RangeFuncCalls
import Derived.RangeFuncLeaves
import Derived.RangeFuncBox
import Derived.Shelf.Abstract
import Derived.OwnWalkIn
import Derived.TacticsInMore
import Derived.LoopNIn
import Derived.LoopIn
import Derived.Lib.IndexLaws
import Derived.Shelf.RegionOpen
import Derived.Lib.Strings
import Derived.Shelf.Strings.Builder1
import Derived.Shelf.Strings.Builder2
import Derived.Shelf.Strings.OnBuilder
import Derived.Shelf.Strings.BuilderF
import Derived.Shelf.Strconv.Itoa0
import Derived.Shelf.Strconv.Itoa1
import Derived.Shelf.LaysM
import Derived.Shelf.Strconv.Itoa2
import Derived.Shelf.Strconv.Itoa3
import Derived.Shelf.Strings.Search1
import Derived.Shelf.Strings.Search2
import Derived.Shelf.Strings.Search3
import Derived.Shelf.Strings.Count
import Derived.Shelf.Strings.Shaped
import Derived.Shelf.Strings.Split
import Derived.Shelf.Strings.SplitShaped
import Derived.Shelf.Unicode.DecodeSlow
import Derived.Test.YtlkdmpfifpkpaaaGreatDoorProg
import Derived.Deep.QuietTactic
import Derived.BigQuiet
import Derived.Lib.SlBytesRow
import Derived.WalkKit
import Derived.WalkSpells
import Derived.WalkLawsBesides
import Derived.Lib.Hide
import Derived.Deep.RegionHeld3
import Derived.Deep.DeepFit
import Derived.Recover
import Derived.Defers
import Derived.Lib.Builder
import Derived.Lib.AppendStr
import Derived.Lib.UnsafeStr
import Derived.Lib.Slices
import Derived.Laws.Externs
import Derived.Lib.SplitLaws
import Derived.Deep.RegionWith
import Derived.Test.YtlkdmpfifpkpaaaGreatDoorChecked
import Derived.OrdersIn
import Derived.OrdersHeld
import Derived.Deep.RegionHeld
import Derived.Test.YtlkdmpfifpkpaaaGreatDoorQ01
import Derived.Test.YtlkdmpfifpkpaaaGreatDoorQ02
import Derived.Test.YtlkdmpfifpkpaaaGreatDoorQ03
import Derived.Test.YtlkdmpfifpkpaaaGreatDoorQ04
import Derived.Test.YtlkdmpfifpkpaaaGreatDoorQ05
import Derived.Test.YtlkdmpfifpkpaaaGreatDoorQ06
import Derived.Test.YtlkdmpfifpkpaaaGreatDoorQ07
namespace Go.Proofs.YtlkdmpfifpkpaaaGreatDoor
open Go.RowKit

/-- the lines of a script, with what is behind the last newline -/
def lnT (t : ByteArray) : List ByteArray := Lib.splitB ⟨#[10]⟩ 0 (Lib.countB t ⟨#[10]⟩) t
def lnI (t : ByteArray) (i : Nat) : ByteArray := ((lnT t)[i]?).getD ⟨#[]⟩
theorem lnT_len (t : ByteArray) : (lnT t).length = Lib.countB t ⟨#[10]⟩ + 1 := Lib.splitB_all ⟨#[10]⟩ (by decide) 0 _ t rfl
theorem ln_cell (t : ByteArray) (w : World) {i : Nat} (h : i < (lnT t).length) : (w.alloc (.cells ((lnT t).map Value.string).toArray 9)).cell? ⟨w.heap.size, i, none⟩ = some (.string (lnI t i)) := by
  have hh : (w.alloc (.cells ((lnT t).map Value.string).toArray 9)).heap[w.heap.size]? = some (.cells ((lnT t).map Value.string).toArray 9 (0, 0)) := heap_alloc_new _ _
  simp only [World.cell?, hh]
  unfold lnI
  simp [h]
/-- the output of the first lines -/
def exO (out : Nat → ByteArray) : Nat → List UInt8
  | 0 => []
  | k + 1 => exO out k ++ ((out k).data.toList ++ [10])
theorem exO_len {out : Nat → ByteArray} (h : ∀ k, (out k).size ≤ 1000000) : ∀ k, (exO out k).length ≤ 1000001 * k
  | 0 => Nat.zero_le _
  | k + 1 => by
    have := exO_len h k
    have h2 : (out k).data.toList.length ≤ 1000000 := by have := h k; simpa using this
    simp only [exO, List.length_append, List.length_cons, List.length_nil]
    omega
/-- the last line of the output -/
def exT (a b : Nat) : ByteArray := ⟨#[116, 114, 97, 105, 110, 115, 32]⟩ ++ ⟨(Lib.decDigits a).toArray⟩ ++ ⟨#[32, 112, 97, 116, 104, 115, 32]⟩ ++ ⟨(Lib.decDigits b).toArray⟩ ++ ⟨#[10]⟩
/-- what Execute keeps besides the session -/
structure ExM (w wr : World) (t : ByteArray) (s ob bl : Nat) (own : Nat → Prop) (o : List UInt8) : Prop where
  sb : SbS (fun q => ¬ own q ∧ q ≠ bl) w.heap.size ob (Lib.byteCells o) wr
  ln : ∀ i, i < (lnT t).length → wr.cell? ⟨bl, i, none⟩ = some (.string (lnI t i))
  bo : ¬ own bl
  bz : bl < wr.heap.size
  zl : w.heap.size ≤ bl
  ow : own s
  oz : ∀ q, own q → w.heap.size ≤ q ∧ q < wr.heap.size
  bd : Below w.heap.size w wr
theorem dd_size {n : Nat} (h : n < 100) : (⟨(Lib.decDigits n).toArray⟩ : ByteArray).size ≤ 21 := by
  have q := Lib.itoa_length_le (n : Int) (by omega) (by omega)
  have e : Lib.itoa (n : Int) = Lib.decDigits n := by
    unfold Lib.itoa
    rw [if_neg (by omega), show ((n : Nat) : Int).toNat = n by omega]
  rw [e] at q
  show (Lib.decDigits n).toArray.size ≤ 21
  simpa using q
set_option maxRecDepth 100000 in
set_option maxHeartbeats 4000000 in
set_option linter.unusedSimpArgs false in
theorem execute_gen (t : ByteArray) (m : Int) (w : World) (hsz : t.size ≤ 500) (hm : w.cell? ⟨0, 0, none⟩ = some (.int .i64 m)) (St : Nat → (Nat → Prop) → World → Nat → Prop) (out : Nat → ByteArray) (tr pn : Nat)
    (hout : ∀ k, (out k).size ≤ 1000000) (htr : tr < 100) (hpn : pn < 100)
    (hinit : ∀ W s g1 c1 g2 c2, Below w.heap.size w W → w.heap.size ≤ g1 → w.heap.size ≤ g2 → g1 ≠ g2 → g1 < s → g2 < s → Bx W s 56 #[.slice (some ⟨g1, 0, none⟩) 1 c1, .slice (some ⟨g2, 0, none⟩) 0 c2, .slice none 0 0, .int .i64 0, .slice none 0 0, .slice none 0 0] →
      Own W g1 c1 1 3 76 (bkF (newL 1 0).N (newL 1 0).I (newL 1 0).O) → Own W g2 c2 0 1 3 (fun i => .int .i64 ((newL 1 0).T i)) → St 0 (fun q => q = s ∨ q = g1 ∨ q = g2) W s)
    (hkeep : ∀ k own W W' s, St k own W s → Fr (fun q => ¬ own q) W W' → St k own W' s)
    (hstep : ∀ k own W s, k + 1 < (lnT t).length → St k own W s → Below w.heap.size w W → (∀ q, own q → w.heap.size ≤ q ∧ q < W.heap.size) → Calls Tryz.prog 37 #[.pointer (some ⟨s, 0, none⟩), .string (lnI t k)] W fun e w' => e = .returned (.string (out k)) ∧ ∃ own', St (k + 1) own' w' s ∧ Fr own W w' ∧ own' s ∧ ∀ q, own' q → (own q ∨ W.heap.size ≤ q) ∧ q < w'.heap.size)
    (hend : ∀ own W s, St ((lnT t).length - 1) own W s → (∃ a c, W.cell? ⟨s, 1, none⟩ = some (.slice a tr c)) ∧ ∃ a c, W.cell? ⟨s, 2, none⟩ = some (.slice a pn c)) :
    Calls Tryz.prog 11 #[.string t] w fun e w' => e = .returned (.string ⟨(exO out ((lnT t).length - 1) ++ (exT tr pn).data.toList).toArray⟩) ∧ Below w.heap.size w w' := by
  have H00 : 0 < w.heap.size := World.block_lt_of_cell? w ⟨0, 0, none⟩ hm
  have HSP : Hid (∀ W, Below w.heap.size w W → Calls Tryz.prog 35 #[.string t, .string ⟨#[10]⟩] W fun e w' => e = .returned (.slice (some ⟨W.heap.size, 0, none⟩) (lnT t).length (lnT t).length) ∧ w' = W.alloc (.cells ((lnT t).map Value.string).toArray 9)) := fun W h => by
    have q := Tryz.strings_Split t ⟨#[10]⟩ m W (by omega) (by rw [h.cell (p := ⟨0, 0, none⟩) H00]; exact hm) (by decide)
    rw [← lnT_len] at q
    exact q
  have HIN := Lib.hid hinit
  have HKE := Lib.hid hkeep
  have HST := Lib.hid hstep
  have HEN := Lib.hid hend
  have HLN := Lib.hid (lineNew_any 1 0 w (by omega))
  have HNW : Hid (nwO 1 0 = some (newL 1 0)) := rfl
  clear hinit hkeep hstep hend
  go_enter Tryz.func11, Tryz.ntmps11
  go_wp2_with fail
  refine HLN.out.mono ?_
  rintro e w1 h1
  obtain ⟨v, rfl, hl1, hb1⟩ := h1.some HNW.out
  have HL1 := Lib.hid hl1
  have HB1 := Lib.hid hb1
  obtain ⟨g1, c1, g2, c2, rfl, _⟩ := hl1
  clear hb1 h1
  have HS2 : Hid (Bx (((w1.alloc (.cells #[.slice (some ⟨g1, 0, none⟩) (newL 1 0).n c1, .slice (some ⟨g2, 0, none⟩) (newL 1 0).m c2] 31)).alloc (.cells #[.slice (some ⟨g1, 0, none⟩) (newL 1 0).n c1, .slice (some ⟨g2, 0, none⟩) (newL 1 0).m c2, .slice none 0 0, .int .i64 0, .slice none 0 0, .slice none 0 0] 56)).alloc (.cells #[.pointer none, .slice none 0 0] 59)) (w1.heap.size + 1) 56 #[.slice (some ⟨g1, 0, none⟩) (newL 1 0).n c1, .slice (some ⟨g2, 0, none⟩) (newL 1 0).m c2, .slice none 0 0, .int .i64 0, .slice none 0 0, .slice none 0 0]) := (Bx.newAt (by simp)).alloc _
  have HO2 : Hid (Bx (((w1.alloc (.cells #[.slice (some ⟨g1, 0, none⟩) (newL 1 0).n c1, .slice (some ⟨g2, 0, none⟩) (newL 1 0).m c2] 31)).alloc (.cells #[.slice (some ⟨g1, 0, none⟩) (newL 1 0).n c1, .slice (some ⟨g2, 0, none⟩) (newL 1 0).m c2, .slice none 0 0, .int .i64 0, .slice none 0 0, .slice none 0 0] 56)).alloc (.cells #[.pointer none, .slice none 0 0] 59)) (w1.heap.size + 1 + 1) 59 #[.pointer none, .slice none 0 0]) := Bx.newAt (by simp)
  have HBW : Hid (Below w1.heap.size w1 (((w1.alloc (.cells #[.slice (some ⟨g1, 0, none⟩) (newL 1 0).n c1, .slice (some ⟨g2, 0, none⟩) (newL 1 0).m c2] 31)).alloc (.cells #[.slice (some ⟨g1, 0, none⟩) (newL 1 0).n c1, .slice (some ⟨g2, 0, none⟩) (newL 1 0).m c2, .slice none 0 0, .int .i64 0, .slice none 0 0, .slice none 0 0] 56)).alloc (.cells #[.pointer none, .slice none 0 0] 59))) := ((below_all _ _).alloc (by simp) _).alloc (by simp; omega) _
  go_wp2_with fail
  generalize ((w1.alloc (.cells #[.slice (some ⟨g1, 0, none⟩) (newL 1 0).n c1, .slice (some ⟨g2, 0, none⟩) (newL 1 0).m c2] 31)).alloc (.cells #[.slice (some ⟨g1, 0, none⟩) (newL 1 0).n c1, .slice (some ⟨g2, 0, none⟩) (newL 1 0).m c2, .slice none 0 0, .int .i64 0, .slice none 0 0, .slice none 0 0] 56)).alloc (.cells #[.pointer none, .slice none 0 0] 59) = W2 at *
  have HB2 := Lib.hid (HB1.out.trans (HBW.out.mono HB1.out.size))
  refine (HSP.out _ HB2.out).mono ?_
  rintro e W3 ⟨rfl, rfl⟩
  have hzw := HB1.out.size
  have hzs := HS2.out.lt
  have hzo := HO2.out.lt
  have HM : Hid (∃ own, St 0 own (W2.alloc (.cells ((lnT t).map Value.string).toArray 9)) (w1.heap.size + 1) ∧ ExM w (W2.alloc (.cells ((lnT t).map Value.string).toArray 9)) t (w1.heap.size + 1) (w1.heap.size + 1 + 1) W2.heap.size own []) := by
    obtain ⟨_, _, _, _, e, hl2, hl3, hgne, hg1, hg2⟩ := HL1.out
    cases e
    have hg1l := hl2.lt
    have hg2l := hl3.lt
    have hst := HIN.out W2 (w1.heap.size + 1) g1 c1 g2 c2 HB2.out hg1 hg2 hgne (by omega) (by omega) HS2.out (hl2.below HBW.out hl2.lt) (hl3.below HBW.out hl3.lt)
    have ha := below_all W2 (.cells ((lnT t).map Value.string).toArray 9)
    refine ⟨_, HKE.out _ _ _ _ _ hst (Fr.of_below ha _), ?_, fun i hi => ln_cell t W2 hi, by omega, by simp, by omega, .inl rfl, fun q hq => ?_, HB2.out.trans (ha.mono HB2.out.size)⟩
    · have hx : Bx (W2.alloc (.cells ((lnT t).map Value.string).toArray 9)) (w1.heap.size + 1 + 1) 59 #[.pointer none, .slice none 0 0] := HO2.out.alloc _
      exact ⟨_, .inl rfl, by omega, by omega, _, hx, ⟨rfl, .inl ⟨rfl, rfl⟩⟩, by simp [Value.ownBlock], fun q hq => by simp [Value.ownBlock] at hq⟩
    · have : (W2.alloc (.cells ((lnT t).map Value.string).toArray 9)).heap.size = W2.heap.size + 1 := by simp
      omega
  clear HS2 HO2 HBW HB1 HL1 HLN HNW HB2 HIN HSP
  generalize W2.alloc (.cells ((lnT t).map Value.string).toArray 9) = W3 at *
  have hlen := lnT_len t
  have hl1 : 1 ≤ (lnT t).length := by omega
  have hl5 : (lnT t).length ≤ 501 := by have := Lib.countB_le ⟨#[10]⟩ (by decide) t.size t (Nat.le_refl _); omega
  clear hlen
  have hv1 : IntKind.i64.wrap (((lnT t).length : Int) - 1) = ((lnT t).length : Int) - 1 := IntWalk.i64_in _ (by omega)
  have hv2 : (((lnT t).length : Int) - 1).toNat = (lnT t).length - 1 := by omega
  have hv3 : (0 : Int) ≤ ((lnT t).length : Int) - 1 := by omega
  have hv4 : ((lnT t).length : Int) - 1 ≤ ((lnT t).length : Int) := by omega
  have hv5 : (1 : Int) ≤ ((lnT t).length : Int) := by omega
  have HZ3 : Hid (w1.heap.size + 1 + 1 < W2.heap.size) := hzo
  generalize w1.heap.size + 1 + 1 = ob at *
  generalize w1.heap.size + 1 = sb at *
  generalize W2.heap.size = bl at *
  go_wp2_with fail
  go_loopw [9, 28] (fun _ i wr => ∃ k : Nat, k ≤ (lnT t).length - 1 ∧ i = .int .i64 k ∧ Hid (∃ own, St k own wr sb ∧ ExM w wr t sb ob bl own (exO out k))) (fun _ i _ => (lnT t).length - 1 - (intOf i).toNat)
  case atStart => exact ⟨0, Nat.zero_le _, rfl, HM⟩
  case round =>
    obtain ⟨k, hk, rfl, HI⟩ := hrel
    obtain ⟨own, hst, hex⟩ := HI.out
    have HS := Lib.hid hst
    have HE := Lib.hid hex
    clear hst hex HI
    by_cases hlt : k < (lnT t).length - 1
    · have hcc := HE.out.ln k (by omega)
      have hki : (k : Int) < ((lnT t).length : Int) - 1 := by omega
      have hkn : k < (lnT t).length := by omega
      have HAN := Lib.hid (HST.out k own wr sb (by omega) HS.out HE.out.bd HE.out.oz)
      have hos := hout k
      have hss1 : ¬ 9223372036854775807 < (out k).size + 1 := by omega
      go_wp2_with fail
      refine HAN.out.mono ?_
      rintro e w4 ⟨rfl, own', hst, hf, hos', hoq⟩
      have HS4 := Lib.hid hst
      have HF4 := Lib.hid hf
      have HOS := Lib.hid hos'
      have HOQ := Lib.hid hoq
      have hz4 := hf.size
      have HB4 : Hid (Below w.heap.size w w4) := HE.out.bd.trans (hf.below (fun q hq => (HE.out.oz q hq).1) HE.out.bd.size)
      have hsb : SbS (fun q => ¬ own' q ∧ q ≠ bl) w.heap.size ob (Lib.byteCells (exO out k)) w4 := by
        have q1 : SbS (fun q => ¬ own q ∧ q ≠ bl ∧ q < wr.heap.size) w.heap.size ob (Lib.byteCells (exO out k)) wr := HE.out.sb.imp (fun q hq h => ⟨h.1, h.2, hq⟩)
        exact (q1.fr hf (fun q h => h.1)).imp (fun q _ h => ⟨fun ho => by rcases (hoq q ho).1 with h2 | h2
                                                                          · exact h.1 h2
                                                                          · omega, h.2.1⟩)
      have HSB := Lib.hid hsb
      have hln := exO_len hout k
      clear hst hf hos' hoq HAN hsb
      have HWS := Lib.hid (writeStringF_any (fun q => ¬ own' q ∧ q ≠ bl) w.heap.size ob (Lib.byteCells (exO out k)) (out k ++ ⟨#[10]⟩) w4 HSB.out (by simp only [Lib.byteCells_length, ByteArray.size_append]; have : (⟨#[10]⟩ : ByteArray).size = 1 := rfl; omega) HB4.out.size)
      go_wp2_with fail
      refine HWS.out.mono ?_
      rintro e w5 ⟨rfl, hsb, hb5, hf5⟩
      have HN : Hid (∃ own, St (k + 1) own w5 sb ∧ ExM w w5 t sb ob bl own (exO out (k + 1))) := by
        have hz5 := hf5.size
        refine ⟨own', HKE.out _ _ _ _ _ HS4.out (hf5.mono (fun q _ h => h.1)), ?_, fun i hi => ?_, fun ho => ?_, ?_, HE.out.zl, HOS.out, fun q hq => ?_, HB4.out.trans hb5⟩
        · have e1 : Lib.byteCells (exO out (k + 1)) = Lib.byteCells (exO out k) ++ Lib.strCells (out k ++ ⟨#[10]⟩) := by
            simp only [exO]
            rw [Lib.byteCells_append, Lib.strCells_eq, ByteArray.data_append, Array.toList_append]
          rw [e1]
          refine hsb.imp (fun q hq h => ?_)
          rcases h with h | h
          · exact h
          · refine ⟨fun ho => by have := (HOQ.out q ho).2; omega, ?_⟩
            have := HE.out.bz
            omega
        · have h1 := HE.out.ln i hi
          have h2 : w4.heap[bl]? = wr.heap[bl]? := HF4.out.block bl HE.out.bz HE.out.bo
          have h3 : w5.heap[bl]? = w4.heap[bl]? := hf5.block bl (by have := HE.out.bz; omega) (fun h => h.2 rfl)
          rw [World.cell?_of_block (a := ⟨bl, i, none⟩) h3, World.cell?_of_block (a := ⟨bl, i, none⟩) h2]
          exact h1
        · rcases (HOQ.out bl ho).1 with h2 | h2
          · exact HE.out.bo h2
          · have := HE.out.bz; omega
        · have := HE.out.bz; omega
        · have h2 := HOQ.out q hq
          refine ⟨?_, by omega⟩
          rcases h2.1 with h3 | h3
          · exact (HE.out.oz q h3).1
          · have := HE.out.bd.size; omega
      clear hsb hb5 hf5 HWS hcc
      go_wp2_with fail
      go_roundw
      case rel => exact ⟨k + 1, by omega, by go_num, HN.out⟩
      case measure => simp [intOf]; omega
    · obtain rfl : k = (lnT t).length - 1 := by omega
      obtain ⟨⟨a1, n1, hp1⟩, ⟨a2, n2, hp2⟩⟩ := HEN.out own wr sb HS.out
      have hsl : sb < wr.heap.size := (HE.out.oz sb HE.out.ow).2
      have HCC : Hid (∀ W, Fr (fun q => ¬ own q) wr W → W.cell? ⟨sb, 1, none⟩ = some (.slice a1 tr n1) ∧ W.cell? ⟨sb, 2, none⟩ = some (.slice a2 pn n2)) := fun W h => by
        have hb : W.heap[sb]? = wr.heap[sb]? := h.block sb hsl (fun q => q HE.out.ow)
        rw [World.cell?_of_block (a := ⟨sb, 1, none⟩) hb, World.cell?_of_block (a := ⟨sb, 2, none⟩) hb]
        exact ⟨hp1, hp2⟩
      clear hp1 hp2
      have hln := exO_len hout ((lnT t).length - 1)
      have hd1 : (⟨(Lib.decDigits tr).toArray⟩ : ByteArray).size ≤ 21 := dd_size htr
      have hd2 : (⟨(Lib.decDigits pn).toArray⟩ : ByteArray).size ≤ 21 := dd_size hpn
      have HET : Hid (exT tr pn = ⟨#[116, 114, 97, 105, 110, 115, 32]⟩ ++ ⟨(Lib.decDigits tr).toArray⟩ ++ ⟨#[32, 112, 97, 116, 104, 115, 32]⟩ ++ ⟨(Lib.decDigits pn).toArray⟩ ++ ⟨#[10]⟩) := rfl
      have HIT : Hid (∀ W, Calls Tryz.prog 38 #[.int .i64 tr] W fun e w' => e = .returned (.string ⟨(Lib.decDigits tr).toArray⟩) ∧ w' = W) := fun W => Tryz.strconv_Itoa_small tr htr W
      have HIP : Hid (∀ W, Calls Tryz.prog 38 #[.int .i64 pn] W fun e w' => e = .returned (.string ⟨(Lib.decDigits pn).toArray⟩) ∧ w' = W) := fun W => Tryz.strconv_Itoa_small pn hpn W
      have HWD : Hid (Fr (fun q => ¬ own q) wr wr.drew) := Fr.of_below (Below.refl _ _).drew _
      have HSB : Hid (SbS (fun q => ¬ own q ∧ q ≠ bl) w.heap.size ob (Lib.byteCells (exO out ((lnT t).length - 1))) wr.drew) := HE.out.sb.fr (Fr.of_below (Below.refl _ _).drew (fun _ => False)) (fun _ _ h => h)
      generalize (⟨(Lib.decDigits tr).toArray⟩ : ByteArray) = dt at *
      generalize (⟨(Lib.decDigits pn).toArray⟩ : ByteArray) = dp at *
      have hs1 : ¬ 9223372036854775807 < 7 + dt.size := by omega
      have hs2 : ¬ 9223372036854775807 < 7 + dt.size + 7 := by omega
      have hs3 : ¬ 9223372036854775807 < 7 + dt.size + 7 + dp.size := by omega
      have hs4 : ¬ 9223372036854775807 < 7 + dt.size + 7 + dp.size + 1 := by omega
      go_wp2_with fail
      refine wp_region_held_drew (S := fun W => W.cell? ⟨sb, 1, none⟩ = some (.slice a1 tr n1) ∧ W.cell? ⟨sb, 2, none⟩ = some (.slice a2 pn n2)) (by kernel_rfl) (HCC.out _ HWD.out) (fun hHeld => ?_)
      refine wpAnyH_take (i := 0) (oi := ?_) (v := ?_) ?_ (by kernel_rfl) (by kernel_rfl) (by kernel_rfl) ?_ ?_ (by assumption) ?_
      rotate_left 2
      · simp only [List.getElem?_toArray, List.getElem?_cons_succ, List.getElem?_cons_zero]; rfl
      · exact fun _ _ _ h => h
      · first
          | (refine Or.inr ⟨?_, ?_⟩ <;> rfl)
          | (refine Or.inl ⟨?_, ?_⟩; · rfl
             intro w hSw; (try dsimp only at hSw); go_simp; (try with_reducible rfl); done)
      try simp only [Act.put, List.setIfInBounds_toArray, List.set_cons_zero, List.set_cons_succ]
      refine wpAnyH_take (i := 1) (oi := ?_) (v := ?_) ?_ (by kernel_rfl) (by kernel_rfl) (by kernel_rfl) ?_ ?_ (by assumption) ?_
      rotate_left 2
      · simp only [List.getElem?_toArray, List.getElem?_cons_succ, List.getElem?_cons_zero]; rfl
      · exact fun _ _ _ h => h
      · first
          | (refine Or.inr ⟨?_, ?_⟩ <;> rfl)
          | (refine Or.inl ⟨?_, ?_⟩; · rfl
             intro w hSw; (try dsimp only at hSw); go_simp; (try with_reducible rfl); done)
      try simp only [Act.put, List.setIfInBounds_toArray, List.set_cons_zero, List.set_cons_succ]
      refine wpAnyH_take (i := 2) (oi := ?_) (v := ?_) ?_ (by kernel_rfl) (by kernel_rfl) (by kernel_rfl) ?_ ?_ (by assumption) ?_
      rotate_left 2
      · simp only [List.getElem?_toArray, List.getElem?_cons_succ, List.getElem?_cons_zero]; rfl
      · exact fun _ _ _ h => h
      · first
          | (refine Or.inr ⟨?_, ?_⟩ <;> rfl)
          | (refine Or.inl ⟨?_, ?_⟩; · rfl
             intro w hSw; (try dsimp only at hSw); go_simp; (try with_reducible rfl); done)
      try simp only [Act.put, List.setIfInBounds_toArray, List.set_cons_zero, List.set_cons_succ]
      refine wpAnyH_take (i := 3) (oi := ?_) (v := ?_) ?_ (by kernel_rfl) (by kernel_rfl) (by kernel_rfl) ?_ ?_ (by assumption) ?_
      rotate_left 2
      · simp only [List.getElem?_toArray, List.getElem?_cons_succ, List.getElem?_cons_zero]; rfl
      · exact fun _ _ _ h => h
      · first
          | (refine Or.inr ⟨?_, ?_⟩ <;> rfl)
          | (refine Or.inl ⟨?_, ?_⟩; · rfl
             intro w hSw; (try dsimp only at hSw); go_simp; (try with_reducible rfl); done)
      try simp only [Act.put, List.setIfInBounds_toArray, List.set_cons_zero, List.set_cons_succ]
      refine wpAnyH_take (i := 4) (oi := ?_) (v := ?_) ?_ (by kernel_rfl) (by kernel_rfl) (by kernel_rfl) ?_ ?_ (by assumption) ?_
      rotate_left 2
      · simp only [List.getElem?_toArray, List.getElem?_cons_succ, List.getElem?_cons_zero]; rfl
      · exact fun _ _ _ h => h
      · first
          | (refine Or.inr ⟨?_, ?_⟩ <;> rfl)
          | (refine Or.inl ⟨?_, ?_⟩; · rfl
             intro w hSw; (try dsimp only at hSw); go_simp; (try with_reducible rfl); done)
      try simp only [Act.put, List.setIfInBounds_toArray, List.set_cons_zero, List.set_cons_succ]
      refine wpAnyH_take (i := 5) (oi := ?_) (v := ?_) ?_ (by kernel_rfl) (by kernel_rfl) (by kernel_rfl) ?_ ?_ (by assumption) ?_
      rotate_left 2
      · simp only [List.getElem?_toArray, List.getElem?_cons_succ, List.getElem?_cons_zero]; rfl
      · exact fun _ _ _ h => h
      · first
          | (refine Or.inr ⟨?_, ?_⟩ <;> rfl)
          | (refine Or.inl ⟨?_, ?_⟩; · rfl
             intro w hSw; (try dsimp only at hSw); go_simp; (try with_reducible rfl); done)
      try simp only [Act.put, List.setIfInBounds_toArray, List.set_cons_zero, List.set_cons_succ]
      refine wpAnyH_take (i := 9) (oi := ?_) (v := ?_) ?_ (by kernel_rfl) (by kernel_rfl) (by kernel_rfl) ?_ ?_ (by assumption) ?_
      rotate_left 2
      · simp only [List.getElem?_toArray, List.getElem?_cons_succ, List.getElem?_cons_zero]; rfl
      · exact fun _ _ _ h => h
      · first
          | (refine Or.inr ⟨?_, ?_⟩ <;> rfl)
          | (refine Or.inl ⟨?_, ?_⟩; · rfl
             intro w hSw; (try dsimp only at hSw); go_simp; (try with_reducible rfl); done)
      try simp only [Act.put, List.setIfInBounds_toArray, List.set_cons_zero, List.set_cons_succ]
      refine wpAnyH_take (i := 10) (oi := ?_) (v := ?_) ?_ (by kernel_rfl) (by kernel_rfl) (by kernel_rfl) ?_ ?_ (by assumption) ?_
      rotate_left 2
      · simp only [List.getElem?_toArray, List.getElem?_cons_succ, List.getElem?_cons_zero]; rfl
      · exact fun _ _ _ h => h
      · first
          | (refine Or.inr ⟨?_, ?_⟩ <;> rfl)
          | (refine Or.inl ⟨?_, ?_⟩; · rfl
             intro w hSw; (try dsimp only at hSw); go_simp; (try with_reducible rfl); done)
      try simp only [Act.put, List.setIfInBounds_toArray, List.set_cons_zero, List.set_cons_succ]
      refine wpAnyH_take (i := 11) (oi := ?_) (v := ?_) ?_ (by kernel_rfl) (by kernel_rfl) (by kernel_rfl) ?_ ?_ (by assumption) ?_
      rotate_left 2
      · simp only [List.getElem?_toArray, List.getElem?_cons_succ, List.getElem?_cons_zero]; rfl
      · exact fun _ _ _ h => h
      · first
          | (refine Or.inr ⟨?_, ?_⟩ <;> rfl)
          | (refine Or.inl ⟨?_, ?_⟩; · rfl
             intro w hSw; (try dsimp only at hSw); go_simp; (try with_reducible rfl); done)
      try simp only [Act.put, List.setIfInBounds_toArray, List.set_cons_zero, List.set_cons_succ]
      refine wpAnyH_take (i := 12) (oi := ?_) (v := ?_) ?_ (by kernel_rfl) (by kernel_rfl) (by kernel_rfl) ?_ ?_ (by assumption) ?_
      rotate_left 2
      · simp only [List.getElem?_toArray, List.getElem?_cons_succ, List.getElem?_cons_zero]; rfl
      · exact fun _ _ _ h => h
      · first
          | (refine Or.inr ⟨?_, ?_⟩ <;> rfl)
          | (refine Or.inl ⟨?_, ?_⟩; · rfl
             intro w hSw; (try dsimp only at hSw); go_simp; (try with_reducible rfl); done)
      try simp only [Act.put, List.setIfInBounds_toArray, List.set_cons_zero, List.set_cons_succ]
      refine wpAnyH_take (i := 13) (oi := ?_) (v := ?_) ?_ (by kernel_rfl) (by kernel_rfl) (by kernel_rfl) ?_ ?_ (by assumption) ?_
      rotate_left 2
      · simp only [List.getElem?_toArray, List.getElem?_cons_succ, List.getElem?_cons_zero]; rfl
      · exact fun _ _ _ h => h
      · first
          | (refine Or.inr ⟨?_, ?_⟩ <;> rfl)
          | (refine Or.inl ⟨?_, ?_⟩; · rfl
             intro w hSw; (try dsimp only at hSw); go_simp; (try with_reducible rfl); done)
      try simp only [Act.put, List.setIfInBounds_toArray, List.set_cons_zero, List.set_cons_succ]
      refine wpAnyH_ready (rs := [6]) (by kernel_rfl) (by simp) ?_
      refine AllReadyH.cons (o := ?_) ?_ (fun K hK => ?_) AllReadyH.nil
      rotate_left 1
      · simp only [List.getElem?_toArray, List.getElem?_cons_succ, List.getElem?_cons_zero]; rfl
      go_simp
      go_at_call 38
      go_must (refine Calls.mono (HIT.out _) ?_)
      rintro e w' ⟨rfl, rfl⟩
      refine hK.out _ _ ?_ (fun hHeld => ?_)
      · try dsimp only
        exact HCC.out _ HWD.out
      clear hK K
      try simp only [Act.put, List.setIfInBounds_toArray, List.set_cons_zero, List.set_cons_succ]
      refine wpAnyH_take (i := 7) (oi := ?_) (v := ?_) ?_ (by kernel_rfl) (by kernel_rfl) (by kernel_rfl) ?_ ?_ (by assumption) ?_
      rotate_left 2
      · simp only [List.getElem?_toArray, List.getElem?_cons_succ, List.getElem?_cons_zero]; rfl
      · exact fun _ _ _ h => h
      · first
          | (refine Or.inr ⟨?_, ?_⟩ <;> rfl)
          | (refine Or.inl ⟨?_, ?_⟩; · rfl
             intro w hSw; (try dsimp only at hSw); go_simp; (try with_reducible rfl); done)
      try simp only [Act.put, List.setIfInBounds_toArray, List.set_cons_zero, List.set_cons_succ]
      refine wpAnyH_take (i := 8) (oi := ?_) (v := ?_) ?_ (by kernel_rfl) (by kernel_rfl) (by kernel_rfl) ?_ ?_ (by assumption) ?_
      rotate_left 2
      · simp only [List.getElem?_toArray, List.getElem?_cons_succ, List.getElem?_cons_zero]; rfl
      · exact fun _ _ _ h => h
      · first
          | (refine Or.inr ⟨?_, ?_⟩ <;> rfl)
          | (refine Or.inl ⟨?_, ?_⟩; · rfl
             intro w hSw; (try dsimp only at hSw); go_simp; (try with_reducible rfl); done)
      try simp only [Act.put, List.setIfInBounds_toArray, List.set_cons_zero, List.set_cons_succ]
      refine wpAnyH_ready (rs := [14]) (by kernel_rfl) (by simp) ?_
      refine AllReadyH.cons (o := ?_) ?_ (fun K hK => ?_) AllReadyH.nil
      rotate_left 1
      · simp only [List.getElem?_toArray, List.getElem?_cons_succ, List.getElem?_cons_zero]; rfl
      go_simp
      go_at_call 38
      go_must (refine Calls.mono (HIP.out _) ?_)
      rintro e w' ⟨rfl, rfl⟩
      refine hK.out _ _ ?_ (fun hHeld => ?_)
      · try dsimp only
        exact HCC.out _ HWD.out
      clear hK K
      try simp only [Act.put, List.setIfInBounds_toArray, List.set_cons_zero, List.set_cons_succ]
      refine wpAnyH_take (i := 15) (oi := ?_) (v := ?_) ?_ (by kernel_rfl) (by kernel_rfl) (by kernel_rfl) ?_ ?_ (by assumption) ?_
      rotate_left 2
      · simp only [List.getElem?_toArray, List.getElem?_cons_succ, List.getElem?_cons_zero]; rfl
      · exact fun _ _ _ h => h
      · first
          | (refine Or.inr ⟨?_, ?_⟩ <;> rfl)
          | (refine Or.inl ⟨?_, ?_⟩; · rfl
             intro w hSw; (try dsimp only at hSw); go_simp; (try with_reducible rfl); done)
      try simp only [Act.put, List.setIfInBounds_toArray, List.set_cons_zero, List.set_cons_succ]
      refine wpAnyH_take (i := 16) (oi := ?_) (v := ?_) ?_ (by kernel_rfl) (by kernel_rfl) (by kernel_rfl) ?_ ?_ (by assumption) ?_
      rotate_left 2
      · simp only [List.getElem?_toArray, List.getElem?_cons_succ, List.getElem?_cons_zero]; rfl
      · exact fun _ _ _ h => h
      · first
          | (refine Or.inr ⟨?_, ?_⟩ <;> rfl)
          | (refine Or.inl ⟨?_, ?_⟩; · rfl
             intro w hSw; (try dsimp only at hSw); go_simp; (try with_reducible rfl); done)
      try simp only [Act.put, List.setIfInBounds_toArray, List.set_cons_zero, List.set_cons_succ]
      rw [← HET.out]
      have hez : (exT tr pn).size ≤ 100 := by rw [HET.out]; simp only [ByteArray.size_append]; have e1 : (⟨#[116, 114, 97, 105, 110, 115, 32]⟩ : ByteArray).size = 7 := rfl; have e2 : (⟨#[32, 112, 97, 116, 104, 115, 32]⟩ : ByteArray).size = 7 := rfl; have e3 : (⟨#[10]⟩ : ByteArray).size = 1 := rfl; omega
      have HWS := Lib.hid (writeStringF_any (fun q => ¬ own q ∧ q ≠ bl) w.heap.size ob (Lib.byteCells (exO out ((lnT t).length - 1))) (exT tr pn) wr.drew HSB.out (by simp only [Lib.byteCells_length]; omega) HE.out.bd.drew.size)
      clear hs1 hs2 hs3 hs4
      refine wpAnyH_ready (rs := [17]) (by kernel_rfl) (by simp) ?_
      refine AllReadyH.cons (o := ?_) ?_ (fun K hK => ?_) AllReadyH.nil
      rotate_left 1
      · simp only [List.getElem?_toArray, List.getElem?_cons_succ, List.getElem?_cons_zero]; rfl
      go_simp
      go_at_call 36
      go_must (refine Calls.mono HWS.out ?_)
      rintro e w6 ⟨rfl, hsb, hb6, hf6⟩
      have HF6 := Lib.hid (HWD.out.trans (hf6.mono (fun q _ h => h.1)))
      have HS6 := Lib.hid hsb.sb
      have HB6 := Lib.hid (HE.out.bd.drew.trans hb6)
      clear hsb hb6 hf6
      refine hK.out _ _ ?_ (fun hHeld => ?_)
      · try dsimp only
        exact HCC.out _ HF6.out
      clear hK K
      try simp only [Act.put, List.setIfInBounds_toArray, List.set_cons_zero, List.set_cons_succ]
      refine wpAnyH_done (by kernel_rfl) ?_ _
      have hbc : Lib.byteCells (exO out ((lnT t).length - 1)) ++ Lib.strCells (exT tr pn) = Lib.byteCells (exO out ((lnT t).length - 1) ++ (exT tr pn).data.toList) := by rw [Lib.byteCells_append, Lib.strCells_eq]
      rw [hbc] at HS6
      clear hbc
      go_wp2_with fail
      refine (string_any w.heap.size ob _ _ HS6.out HB6.out.size).mono ?_
      rintro e w7 ⟨rfl, hb7⟩
      have HB7 := Lib.hid (HB6.out.trans hb7)
      clear hb7
      go_wp2_with fail
      go_ret
      exact ⟨rfl, HB7.out⟩
end Go.Proofs.YtlkdmpfifpkpaaaGreatDoor
namespace Go.Proofs.YtlkdmpfifpkpaaaGreatDoor
open Go.RowKit

/-- a row of its own, or nil -/
def Rw (z : Nat) (w : World) (v : Value) (n s : Nat) (e : TypeId) (f : Nat → Value) : Prop :=
  (∃ g cap, v = .slice (some ⟨g, 0, none⟩) n cap ∧ z ≤ g ∧ Own w g cap n s e f) ∨ (n = 0 ∧ v = .slice none 0 0)
theorem Rw.shape {z : Nat} {w : World} {v : Value} {n s : Nat} {e : TypeId} {f : Nat → Value} (h : Rw z w v n s e f) : ∃ a c, v = .slice a n c := by
  rcases h with ⟨g, cap, rfl, _⟩ | ⟨rfl, rfl⟩
  · exact ⟨_, _, rfl⟩
  · exact ⟨_, _, rfl⟩
theorem Rw.blk {z : Nat} {w : World} {v : Value} {n s : Nat} {e : TypeId} {f : Nat → Value} (h : Rw z w v n s e f) : ∀ q, v.ownBlock = some q → z ≤ q ∧ q < w.heap.size := fun q hq => by
  rcases h with ⟨g, cap, rfl, hz, ho⟩ | ⟨rfl, rfl⟩
  · have : some g = some q := hq
    cases this
    exact ⟨hz, ho.lt⟩
  · cases hq
theorem Rw.fr {S : Nat → Prop} {z : Nat} {w w' : World} {v : Value} {n s : Nat} {e : TypeId} {f : Nat → Value} (h : Rw z w v n s e f) (hf : Fr S w w') (hb : ∀ q, v.ownBlock = some q → ¬ S q) : Rw z w' v n s e f := by
  rcases h with ⟨g, cap, rfl, hz, ho⟩ | ⟨rfl, rfl⟩
  · exact .inl ⟨g, cap, rfl, hz, ho.fr hf (hb g rfl)⟩
  · exact .inr ⟨rfl, rfl⟩
theorem Rw.congr {z : Nat} {w : World} {v : Value} {n s : Nat} {e : TypeId} {f g : Nat → Value} (h : Rw z w v n s e f) (hfg : ∀ i, i < n * s → f i = g i) : Rw z w v n s e g := by
  rcases h with ⟨b, cap, rfl, hz, ho⟩ | ⟨rfl, rfl⟩
  · exact .inl ⟨b, cap, rfl, hz, Own.congr ho hfg⟩
  · exact .inr ⟨rfl, rfl⟩
theorem run_nil1 {P : Program} (w : World) {t e : TypeId} {z : Value} {s bytes : Nat} (he : Elem P t e z s bytes) (ty : TypeId) {f : Nat → Value} (ad : Addr) (c : Nat) (hnew : ∀ j, j < s → w.cell? (ad.add j) = some (f j)) (hb : bytes ≤ 64) :
    ∃ g' cap' w', (Builtin.append_ #[t, t] ty #[.slice none 0 0, .slice (some ad) 1 c]).run P w = .ok (.slice (some ⟨g', 0, none⟩) 1 cap') w' ∧ Own w' g' cap' 1 s e f ∧ w.grownBy w' none ∧ g' = w.heap.size := by
  obtain ⟨i, hi, hz, hsz, hby⟩ := info_parts he.info
  subst hsz
  subst hby
  have hnews : ∀ j u, ((List.range i.size).map f)[j]? = some u → w.cell? (ad.add j) = some u := by
    intro j u hj
    rcases Nat.lt_or_ge j i.size with h | h
    · rw [List.getElem?_map, List.getElem?_range h] at hj
      cases hj
      exact hnew j h
    · rw [List.getElem?_eq_none (by simpa using h)] at hj
      cases hj
  have hr := run_append_nil (P := P) w t ty e i z he.ht hi hz ad 1 c ((List.range i.size).map f) (by simp) hnews (by omega) (by omega) (by omega)
  have hge := grownCap_ge w 1 0 e
  refine ⟨w.heap.size, _, _, hr, ⟨hge, grownCap_le_maxLen w 1 0 e (by unfold maxLen; omega), _, heap_alloc_new w.drew _, ?_, ?_⟩, ⟨rfl, rfl, rfl, by simp, fun k hk _ => Below.heap_alloc w.drew _ k hk⟩, rfl⟩
  · simp only [Array.size_append, List.size_toArray, size_zeroCells, he.zs, List.length_map, List.length_range]
    rw [Nat.sub_mul]
    have : i.size ≤ grownCap w 1 0 e * i.size := by
      have := Nat.mul_le_mul_right i.size hge
      omega
    omega
  · intro k hk
    have hk2 : k < i.size := by omega
    rw [Array.getElem?_append_left (by simpa using hk2)]
    simp [hk2]
/-- append of one element to a row, as a step of a region that draws its order -/
theorem step_pushW {P : Program} {zz : Nat} {w : World} {t e : TypeId} {z : Value} {s bytes : Nat} (he : Elem P t e z s bytes) {ops : Array Oper} {o : Oper} {a : Act} {K : Act → World → Prop} {Q : Exit → Act → World → Prop} {E : Prop} (hgd : o.guard = none) (so xo : Operand)
    (ho : o.op = .call { callee := .builtin .append, args := #[so, xo], argTypes := #[t, t] }) {v : Value} {n : Nat} {f : Nat → Value} (hown : Rw zz w v n s e f) (hs : a.eval so = v) (vs : List Value)
    (hx : a.eval xo = .slice (some ⟨w.heap.size, 0, none⟩) 1 1) (hnew : ∀ j, j < s → vs[j]? = some (f (n * s + j))) (h1 : ∀ j, j < s → (f (n * s + j)).oneCell' = true)
    (hn : n ≤ 1000000) (hb : bytes ≤ 64) (hzz : zz ≤ w.heap.size)
    (h : ∀ v' w', Rw zz w' v' (n + 1) s e f → Fr (fun q => v.ownBlock = some q) w w' → (∀ q, v'.ownBlock = some q → v.ownBlock = some q ∨ w.heap.size ≤ q) → K (a.put o.dst v') w') : if Region.wanted o (yielded ops a.tmps) = true then Oper.wp P o a (w.alloc (.cells vs.toArray e)) K Q else E := by
  have hh : (w.alloc (.cells vs.toArray e)).heap[w.heap.size]? = some (.cells vs.toArray e (0, 0)) := heap_alloc_new _ _
  have hzs : (w.alloc (.cells vs.toArray e)).heap.size = w.heap.size + 1 := by simp
  rcases hown with ⟨g, cap, rfl, hz, hown⟩ | ⟨rfl, rfl⟩
  · have hmul : (n + 1) * bytes ≤ 1000001 * 64 := Nat.mul_le_mul (by omega) hb
    refine step_app he hgd so xo ho (hown.alloc _) hs ⟨w.heap.size, 0, none⟩ 1 1 hx (fun j hj => ?_) (fun j hj => h1 j (by omega)) (by unfold maxLen; omega) (by omega) (fun g' cap' w' h2 h3 h4 => ?_)
    · rw [addr_add, Nat.zero_add]
      simp only [World.cell?, hh]
      simpa using hnew j (by omega)
    · refine h _ w' (.inl ⟨g', cap', rfl, ?_, h2⟩) ?_ (fun q hq => ?_)
      · rcases h4 with h4 | h4
        · rw [h4.1]; exact hz
        · omega
      · refine (Fr.of_below (below_all _ _) _).trans ⟨h3.os, h3.tape, h3.output, h3.size, fun k hk hs => h3.block k hk (fun e => hs ?_)⟩
        cases e
        rfl
      · have : some g' = some q := hq
        cases this
        rcases h4 with h4 | h4
        · left; rw [h4.1]; rfl
        · right; omega
  · have hw : Region.wanted o (yielded ops a.tmps) = true := by simp [Region.wanted, hgd]
    rw [if_pos hw]
    obtain ⟨g', cap', w', hr, h2, h3, h4⟩ := run_nil1 (w.alloc (.cells vs.toArray e)) he o.type (f := f) ⟨w.heap.size, 0, none⟩ 1 (fun j hj => by
      rw [addr_add, Nat.zero_add]
      simp only [World.cell?, hh]
      have := hnew j hj
      simpa using this) hb
    unfold Oper.wp execOp
    simp only [ho, resolve, invoke, builtin, Sem.run_bind, Sem.run_pure, Result.andThen_ok, List.map_toArray, List.map_cons, List.map_nil, hs, hx, hr]
    refine h _ w' (.inl ⟨g', cap', rfl, by omega, h2⟩) ?_ (fun q hq => ?_)
    · exact (Fr.of_below (below_all _ _) _).trans ⟨h3.os, h3.tape, h3.output, h3.size, fun k hk _ => h3.block k hk (by simp)⟩
    · have : some g' = some q := hq
      cases this
      right
      omega
end Go.Proofs.YtlkdmpfifpkpaaaGreatDoor
namespace Go.Proofs.YtlkdmpfifpkpaaaGreatDoor
open Go.RowKit

/-- a register in new memory -/
def RgR (z : Nat) (w : World) (v : Value) (ns : List (Int × ByteArray)) : Prop :=
  ∃ r es, v = .pointer (some ⟨r, 0, none⟩) ∧ RgC w r es ns ∧ RgB z r es
theorem RgR.below {z : Nat} {w w' : World} {v : Value} {ns : List (Int × ByteArray)} (h : RgR z w v ns) (hb : Below w.heap.size w w') : RgR z w' v ns := by
  obtain ⟨r, es, e, h1, h2⟩ := h
  exact ⟨r, es, e, h1.below hb (Nat.le_refl _), h2⟩
/-- what registerOf and soundOf hand back -/
def RgRes (ok : Bool) (ns : List (Int × ByteArray)) (w : World) (e : Ending) (w' : World) : Prop :=
  (∃ r, e = .returned (.tuple #[.pointer (some ⟨r, 0, none⟩), .bool ok]) ∧ (ns.length ≤ 30 → RgR w.heap.size w' (.pointer (some ⟨r, 0, none⟩)) ns)) ∧ Below w.heap.size w w'
set_option linter.unusedSimpArgs false in
set_option maxHeartbeats 1000000 in
theorem registerOf_any (b off c : Nat) (ns : List (Int × ByteArray)) (w : World) (hn : ns.length ≤ 1000000000000) (hc : NtC w b off ns) :
    Calls Tryz.prog 169 #[.slice (some ⟨b, off, none⟩) ns.length c] w (RgRes (rgV ns) ns w) := by
  have HC : Hid (∀ w', Below w.heap.size w w' → NtC w' b off ns) := fun w' hb => hc.keep hb
  have HX : Hid (Bx (w.alloc (.cells #[.pointer none, .pointer none, .int .i64 0] 210)) w.heap.size 210 #[.pointer none, .pointer none, .int .i64 0]) := Bx.new _ _ _
  have HBB : Hid (Below w.heap.size w (w.alloc (.cells #[.pointer none, .pointer none, .int .i64 0] 210))) := below_all _ _
  clear hc
  by_cases h30 : (30 : Int) < (ns.length : Int)
  · have HV : Hid (rgV ns = false) := rgV_long (by omega)
    go_enter Tryz.func169, Tryz.ntmps169
    go_wp2_with fail
    go_ret2
    exact ⟨⟨w.heap.size, by rw [HV.out]; rfl, fun h => by omega⟩, HBB.out⟩
  go_enter Tryz.func169, Tryz.ntmps169
  go_wp2_with fail
  go_loopw [6, 15] (fun _ i wr => ∃ k : Nat, k ≤ ns.length ∧ i = .int .i64 k ∧ ∃ es, Hid (RgC wr w.heap.size es (ns.take k) ∧ RgB w.heap.size w.heap.size es) ∧ Hid (Below w.heap.size w wr)) (fun _ i _ => ns.length - (intOf i).toNat)
  case atStart => exact ⟨0, Nat.zero_le _, rfl, [], Lib.hid ⟨RgC.nil HX.out, Nat.le_refl _, fun i hi => by simp at hi⟩, HBB⟩
  case round =>
    obtain ⟨k, hk, rfl, es, HR, HB⟩ := hrel
    by_cases hlt : k < ns.length
    · obtain ⟨c0, c1⟩ := HC.out _ HB.out k hlt
      have HTK : Hid (ns.take (k + 1) = ns.take k ++ [(nM ns k, nL ns k)]) := by show _ = _; rw [nM_at hlt, nL_at hlt]; exact List.take_succ_eq_append_getElem hlt
      have HLT : Hid ((ns.take k).length ≤ 1000000) := by show _ ≤ _; simp; omega
      generalize nM ns k = m at *
      generalize nL ns k = l at *
      have HPT : Hid (∀ o, Calls Tryz.prog 175 #[.pointer (some ⟨w.heap.size, 0, none⟩), .agg #[.int .i64 m, .string l]] (wr.alloc o) fun e w' => e = .returned (.tuple #[]) ∧ (∃ b, (wr.alloc o).heap.size ≤ b ∧ RgC w' w.heap.size (es ++ [b]) (ns.take k ++ [(m, l)])) ∧ Below w.heap.size (wr.alloc o) w') := fun o => put_any w.heap.size w.heap.size es (ns.take k) (m, l) (wr.alloc o) (HR.out.1.alloc _) HLT.out HR.out.2 (by have := HB.out.size; simp; omega)
      go_wp2_with fail
      refine (HPT.out _).mono ?_
      rintro e w2 ⟨rfl, ⟨bn, hbn, hrg⟩, hb2⟩
      have HR2 : Hid (RgC w2 w.heap.size (es ++ [bn]) (ns.take (k + 1)) ∧ RgB w.heap.size w.heap.size (es ++ [bn])) := ⟨by rw [HTK.out]; exact hrg, HR.out.2.push (by have := HB.out.size; simp at hbn; omega)⟩
      have HB2 : Hid (Below w.heap.size w w2) := (HB.out.alloc HB.out.size _).trans hb2
      clear hrg hb2 hbn
      go_wp2_with fail
      go_roundw
      case rel => exact ⟨k + 1, by omega, by go_num, es ++ [bn], HR2, HB2⟩
      case measure => simp [intOf]; omega
    · obtain e : k = ns.length := by omega
      subst e
      have HR3 : Hid (RgC wr w.heap.size es ns) := by have h := HR.out.1; rwa [List.take_length] at h
      have HVD := Lib.hid (valid_any w.heap.size es ns wr HR3.out (by omega))
      go_wp2_with fail
      refine HVD.out.mono ?_
      rintro e w' ⟨rfl, rfl⟩
      go_wp2_with fail
      go_ret2
      exact ⟨⟨w.heap.size, rfl, fun _ => ⟨_, es, rfl, HR3.out, HR.out.2⟩⟩, HB.out⟩
end Go.Proofs.YtlkdmpfifpkpaaaGreatDoor
namespace Go.Proofs.YtlkdmpfifpkpaaaGreatDoor
open Go.RowKit

def iF (l : List Int) (i : Nat) : Int := (l[i]?).getD 0
theorem iF_new {l : List Int} {z : Int} : iF (l ++ [z]) l.length = z := by
  unfold iF
  simp
theorem RgC.kept {w w' : World} {r g : Nat} {es : List Nat} {ns : List (Int × ByteArray)} (h : RgC w r es ns) (hg : w.grownBy w' (some g)) (h1 : g ≠ r) (h2 : ∀ i, i < es.length → g ≠ es.getD i 0) : RgC w' r es ns :=
  ⟨h.box.kept hg (fun e => h1 e.symm), h.len, fun i hi => (h.ent i hi).kept hg (fun e => h2 i hi e.symm), h.dst, h.inj⟩
end Go.Proofs.YtlkdmpfifpkpaaaGreatDoor
namespace Go.Proofs.YtlkdmpfifpkpaaaGreatDoor
open Go.RowKit

structure Ses where
  x : Ln
  tm : Int
  ms : List (Int × ByteArray)
  ts : List Int
  pa : Option Addr := none
  pn : Nat := 0
  pc : Nat := 0
/-- a session at block s -/
structure SsC (z : Nat) (w : World) (s g1 c1 g2 c2 : Nat) (vm vt : Value) (st : Ses) : Prop where
  box : Bx w s 56 #[.slice (some ⟨g1, 0, none⟩) st.x.n c1, .slice (some ⟨g2, 0, none⟩) st.x.m c2, .slice st.pa st.pn st.pc, .int .i64 st.tm, vm, vt]
  bs : Own w g1 c1 st.x.n 3 76 (bkF st.x.N st.x.I st.x.O)
  tr : Own w g2 c2 st.x.m 1 3 (fun i => .int .i64 (st.x.T i))
  mv : Rw z w vm st.ms.length 2 94 (mvF (mvM st.ms) (mvS st.ms))
  tv : Rw z w vt st.ts.length 1 3 (fun i => .int .i64 (iF st.ts i))
  n12 : g1 ≠ g2
  s1 : s ≠ g1
  s2 : s ≠ g2
  dm : ∀ q, vm.ownBlock = some q → q ≠ s ∧ q ≠ g1 ∧ q ≠ g2 ∧ vt.ownBlock ≠ some q
  dt : ∀ q, vt.ownBlock = some q → q ≠ s ∧ q ≠ g1 ∧ q ≠ g2
  z1 : z ≤ g1
  z2 : z ≤ g2
  zs : z ≤ s
def ownS (s g1 g2 : Nat) (vm vt : Value) (q : Nat) : Prop := q = s ∨ q = g1 ∨ q = g2 ∨ vm.ownBlock = some q ∨ vt.ownBlock = some q
theorem SsC.oz {z : Nat} {w : World} {s g1 c1 g2 c2 : Nat} {vm vt : Value} {st : Ses} (h : SsC z w s g1 c1 g2 c2 vm vt st) : ∀ q, ownS s g1 g2 vm vt q → z ≤ q ∧ q < w.heap.size := fun q hq => by
  rcases hq with rfl | rfl | rfl | hq | hq
  · exact ⟨h.zs, h.box.lt⟩
  · exact ⟨h.z1, h.bs.lt⟩
  · exact ⟨h.z2, h.tr.lt⟩
  · exact h.mv.blk q hq
  · exact h.tv.blk q hq
theorem SsC.fr {S : Nat → Prop} {z : Nat} {w w' : World} {s g1 c1 g2 c2 : Nat} {vm vt : Value} {st : Ses} (h : SsC z w s g1 c1 g2 c2 vm vt st) (hf : Fr S w w') (hd : ∀ q, ownS s g1 g2 vm vt q → ¬ S q) : SsC z w' s g1 c1 g2 c2 vm vt st :=
  ⟨h.box.fr hf (hd s (.inl rfl)), h.bs.fr hf (hd g1 (.inr (.inl rfl))), h.tr.fr hf (hd g2 (.inr (.inr (.inl rfl)))), h.mv.fr hf (fun q hq => hd q (.inr (.inr (.inr (.inl hq))))), h.tv.fr hf (fun q hq => hd q (.inr (.inr (.inr (.inr hq))))), h.n12, h.s1, h.s2, h.dm, h.dt, h.z1, h.z2, h.zs⟩
/-- a session, by its reading -/
def StS (z : Nat) (st : Ses) (own : Nat → Prop) (w : World) (s : Nat) : Prop := ∃ g1 c1 g2 c2 vm vt, SsC z w s g1 c1 g2 c2 vm vt st ∧ ∀ q, own q ↔ ownS s g1 g2 vm vt q
theorem StS.keep {z : Nat} {st : Ses} {own : Nat → Prop} {w w' : World} {s : Nat} (h : StS z st own w s) (hf : Fr (fun q => ¬ own q) w w') : StS z st own w' s := by
  obtain ⟨g1, c1, g2, c2, vm, vt, h1, h2⟩ := h
  exact ⟨g1, c1, g2, c2, vm, vt, h1.fr hf (fun q hq h => h ((h2 q).2 hq)), h2⟩
theorem StS.oz {z : Nat} {st : Ses} {own : Nat → Prop} {w : World} {s : Nat} (h : StS z st own w s) : own s ∧ ∀ q, own q → z ≤ q ∧ q < w.heap.size := by
  obtain ⟨g1, c1, g2, c2, vm, vt, h1, h2⟩ := h
  exact ⟨(h2 s).2 (.inl rfl), fun q hq => h1.oz q ((h2 q).1 hq)⟩
/-- what a line of a script does -/
def Md (z : Nat) (st' : Ses) (o : ByteArray) (s : Nat) (own : Nat → Prop) (w : World) (e : Ending) (w' : World) : Prop :=
  e = .returned (.string o) ∧ ∃ own', StS z st' own' w' s ∧ Fr own w w' ∧ ∀ q, own' q → own q ∨ w.heap.size ≤ q
/-- a line that is a command, on a session -/
theorem line_some (z s k : Nat) (t : ByteArray) (m : Int) (st st' : Ses) (o : ByteArray) (own : Nat → Prop) (w : World) (ht : t.size ≤ 1000) (hm : w.cell? ⟨0, 0, none⟩ = some (.int .i64 m)) (hc : cmdK (wd0 t) (wdL t).length = k) (hk : k < 9) (hS : StS z st own w s)
    (HC : ∀ W bw, StS z st own W s → Below w.heap.size w W → (∀ i, i < (wdL t).length → W.cell? ⟨bw, i, none⟩ = some (.string (wdI t i))) → ¬ own bw → Calls Tryz.prog (cmF k) #[.pointer (some ⟨s, 0, none⟩), .slice (some ⟨bw, 0, none⟩) (wdL t).length (wdL t).length] W (Md z st' o s own W)) :
    Calls Tryz.prog 37 #[.pointer (some ⟨s, 0, none⟩), .string t] w (Md z st' o s own w) := by
  have hoz := hS.oz.2
  refine (answer_some s k t m (fun o' w' => o' = o ∧ ∃ own', StS z st' own' w' s ∧ Fr own w w' ∧ ∀ q, own' q → own q ∨ w.heap.size < q) w ht hm hc hk (fun W bw hW hz hl hw => ?_)).mono ?_
  · have hS2 : StS z st own W s := hS.keep (Fr.of_below hW _)
    refine (HC W bw hS2 hW hw (fun h => by have := (hoz bw h).2; omega)).mono ?_
    rintro e w' ⟨rfl, own', h1, h2, h3⟩
    refine ⟨o, rfl, fun b hb1 hb2 => h2.block b hb2 (fun h => by have := (hoz b h).2; omega), rfl, own', h1, (Fr.of_below hW own).trans h2, fun q hq => ?_⟩
    rcases h3 q hq with h | h
    · exact .inl h
    · right; omega
  · rintro e w' ⟨o', w2, rfl, ⟨rfl, own', h1, h2, h3⟩, hlt, rfl⟩
    have hset := Fr.set w2 ⟨w.heap.size, 0, none⟩ (.string o')
    refine ⟨rfl, own', h1.keep (hset.mono (fun q _ hq ho => ?_)), ⟨h2.os, h2.tape, h2.output, by have := h2.size; simpa using this, fun k hk hs => ?_⟩, fun q hq => ?_⟩
    · have hqe : q = w.heap.size := hq
      rcases h3 q ho with h | h
      · have := (hoz q h).2; omega
      · omega
    · rw [hset.block k (by have := h2.size; omega) (fun e => by have : k = w.heap.size := e; omega)]
      exact h2.block k hk hs
    · rcases h3 q hq with h | h
      · exact .inl h
      · right; omega
end Go.Proofs.YtlkdmpfifpkpaaaGreatDoor
namespace Go.Proofs.YtlkdmpfifpkpaaaGreatDoor
open Go.RowKit

def okT : ByteArray := ⟨#[111, 107]⟩
def noT : ByteArray := ⟨#[110, 111]⟩
/-- the session behind a wait, and what it says -/
def wtS (st : Ses) (l : ByteArray) : Ses := if st.tm + nmF l ≤ 2000 then { st with tm := st.tm + nmF l } else st
def wtO (st : Ses) (l : ByteArray) : ByteArray := if st.tm + nmF l ≤ 2000 then okT else noT
set_option linter.unusedSimpArgs false in
set_option maxRecDepth 100000 in
set_option maxHeartbeats 2000000 in
theorem doWait_any (z s bw n c : Nat) (l : ByteArray) (st : Ses) (own : Nat → Prop) (w : World) (hn : 2 ≤ n) (hS : StS z st own w s) (ht : 0 ≤ st.tm ∧ st.tm ≤ 2000) (hw : w.cell? ⟨bw, 1, none⟩ = some (.string l)) :
    Calls Tryz.prog 97 #[.pointer (some ⟨s, 0, none⟩), .slice (some ⟨bw, 0, none⟩) n c] w (Md z (wtS st l) (wtO st l) s own w) := by
  obtain ⟨g1, c1, g2, c2, vm, vt, h1, h2⟩ := hS
  have HS := Lib.hid h1
  have HO := Lib.hid h2
  have hbl : bw < w.heap.size := World.block_lt_of_cell? w ⟨bw, 1, none⟩ hw
  have HW := Lib.hid hw
  have hnm := nmF_bd l
  have HST : Hid (wtS st l = if st.tm + nmF l ≤ 2000 then { st with tm := st.tm + nmF l } else st) := rfl
  have HOT : Hid (wtO st l = if st.tm + nmF l ≤ 2000 then okT else noT) := rfl
  have HTM : Hid (∀ W, Below w.heap.size w W → W.cell? ⟨s, 3, none⟩ = some (.int .i64 st.tm) ∧ W.cell? ⟨bw, 1, none⟩ = some (.string l)) := fun W h => ⟨(HS.out.box.below h HS.out.box.lt).cell 3, by rw [h.cell (p := ⟨bw, 1, none⟩) hbl]; exact HW.out⟩
  have HNU : Hid (∀ W, Calls Tryz.prog 120 #[.string l] W fun e w' => e = .returned (.int .i64 (nmF l)) ∧ W = w') := fun W => numberOf_any l W
  clear h1 h2 hw
  generalize nmF l = nl at *
  have htm : ∃ tm, tm = st.tm := ⟨_, rfl⟩
  obtain ⟨tm, htm⟩ := htm
  rw [← htm] at HST HOT HTM ht
  have HTE := Lib.hid htm
  clear htm
  have hw1 : IntKind.i64.wrap (tm + nl) = tm + nl := IntWalk.i64_in _ (by omega)
  have hn1 : (1 : Int) < (n : Int) := by omega
  have hn2 : 1 < n := by omega
  have HBd : Hid (Below w.heap.size w w.drew) := (Below.refl _ _).drew
  go_enter Tryz.func97, Tryz.ntmps97
  go_wp2_with fail
  refine wp_region_held_drew (S := fun W => W.cell? ⟨s, 3, none⟩ = some (.int .i64 tm) ∧ W.cell? ⟨bw, 1, none⟩ = some (.string l)) (by kernel_rfl) (HTM.out _ HBd.out) (fun hHeld => ?_)
  refine wpAnyH_take (i := 0) (oi := ?_) (v := ?_) ?_ (by kernel_rfl) (by kernel_rfl) (by kernel_rfl) ?_ ?_ (by assumption) ?_
  rotate_left 2
  · simp only [List.getElem?_toArray, List.getElem?_cons_succ, List.getElem?_cons_zero]; rfl
  · exact fun _ _ _ h => h
  · first
      | (refine Or.inr ⟨?_, ?_⟩ <;> rfl)
      | (refine Or.inl ⟨?_, ?_⟩; · rfl
         intro w hSw; (try dsimp only at hSw); go_simp; (try with_reducible rfl); done)
  try simp only [Act.put, List.setIfInBounds_toArray, List.set_cons_zero, List.set_cons_succ]
  refine wpAnyH_take (i := 1) (oi := ?_) (v := ?_) ?_ (by kernel_rfl) (by kernel_rfl) (by kernel_rfl) ?_ ?_ (by assumption) ?_
  rotate_left 2
  · simp only [List.getElem?_toArray, List.getElem?_cons_succ, List.getElem?_cons_zero]; rfl
  · exact fun _ _ _ h => h
  · first
      | (refine Or.inr ⟨?_, ?_⟩ <;> rfl)
      | (refine Or.inl ⟨?_, ?_⟩; · rfl
         intro w hSw; (try dsimp only at hSw); go_simp; (try with_reducible rfl); done)
  try simp only [Act.put, List.setIfInBounds_toArray, List.set_cons_zero, List.set_cons_succ]
  refine wpAnyH_take (i := 2) (oi := ?_) (v := ?_) ?_ (by kernel_rfl) (by kernel_rfl) (by kernel_rfl) ?_ ?_ (by assumption) ?_
  rotate_left 2
  · simp only [List.getElem?_toArray, List.getElem?_cons_succ, List.getElem?_cons_zero]; rfl
  · exact fun _ _ _ h => h
  · first
      | (refine Or.inr ⟨?_, ?_⟩ <;> rfl)
      | (refine Or.inl ⟨?_, ?_⟩; · rfl
         intro w hSw; (try dsimp only at hSw); go_simp; (try with_reducible rfl); done)
  try simp only [Act.put, List.setIfInBounds_toArray, List.set_cons_zero, List.set_cons_succ]
  refine wpAnyH_take (i := 3) (oi := ?_) (v := ?_) ?_ (by kernel_rfl) (by kernel_rfl) (by kernel_rfl) ?_ ?_ (by assumption) ?_
  rotate_left 2
  · simp only [List.getElem?_toArray, List.getElem?_cons_succ, List.getElem?_cons_zero]; rfl
  · exact fun _ _ _ h => h
  · first
      | (refine Or.inr ⟨?_, ?_⟩ <;> rfl)
      | (refine Or.inl ⟨?_, ?_⟩; · rfl
         intro w hSw; (try dsimp only at hSw); go_simp; (try with_reducible rfl); done)
  try simp only [Act.put, List.setIfInBounds_toArray, List.set_cons_zero, List.set_cons_succ]
  refine wpAnyH_take (i := 4) (oi := ?_) (v := ?_) ?_ (by kernel_rfl) (by kernel_rfl) (by kernel_rfl) ?_ ?_ (by assumption) ?_
  rotate_left 2
  · simp only [List.getElem?_toArray, List.getElem?_cons_succ, List.getElem?_cons_zero]; rfl
  · exact fun _ _ _ h => h
  · first
      | (refine Or.inr ⟨?_, ?_⟩ <;> rfl)
      | (refine Or.inl ⟨?_, ?_⟩; · rfl
         intro w hSw; (try dsimp only at hSw); go_simp; (try with_reducible rfl); done)
  try simp only [Act.put, List.setIfInBounds_toArray, List.set_cons_zero, List.set_cons_succ]
  refine wpAnyH_take (i := 5) (oi := ?_) (v := ?_) ?_ (by kernel_rfl) (by kernel_rfl) (by kernel_rfl) ?_ ?_ (by assumption) ?_
  rotate_left 2
  · simp only [List.getElem?_toArray, List.getElem?_cons_succ, List.getElem?_cons_zero]; rfl
  · exact fun _ _ _ h => h
  · first
      | (refine Or.inr ⟨?_, ?_⟩ <;> rfl)
      | (refine Or.inl ⟨?_, ?_⟩; · rfl
         intro w hSw; (try dsimp only at hSw); go_simp; (try with_reducible rfl); done)
  try simp only [Act.put, List.setIfInBounds_toArray, List.set_cons_zero, List.set_cons_succ]
  refine wpAnyH_take (i := 6) (oi := ?_) (v := ?_) ?_ (by kernel_rfl) (by kernel_rfl) (by kernel_rfl) ?_ ?_ (by assumption) ?_
  rotate_left 2
  · simp only [List.getElem?_toArray, List.getElem?_cons_succ, List.getElem?_cons_zero]; rfl
  · exact fun _ _ _ h => h
  · first
      | (refine Or.inr ⟨?_, ?_⟩ <;> rfl)
      | (refine Or.inl ⟨?_, ?_⟩; · rfl
         intro w hSw; (try dsimp only at hSw); go_simp; (try with_reducible rfl); done)
  try simp only [Act.put, List.setIfInBounds_toArray, List.set_cons_zero, List.set_cons_succ]
  refine wpAnyH_ready (rs := [7]) (by kernel_rfl) (by simp) ?_
  refine AllReadyH.cons (o := ?_) ?_ (fun K hK => ?_) AllReadyH.nil
  rotate_left 1
  · simp only [List.getElem?_toArray, List.getElem?_cons_succ, List.getElem?_cons_zero]; rfl
  go_simp
  go_at_call 120
  go_must (refine Calls.mono (HNU.out _) ?_)
  rintro e w' ⟨rfl, rfl⟩
  refine hK.out _ _ ?_ (fun hHeld => ?_)
  · try dsimp only
    exact HTM.out _ HBd.out
  clear hK K
  try simp only [Act.put, List.setIfInBounds_toArray, List.set_cons_zero, List.set_cons_succ]
  refine wpAnyH_take (i := 8) (oi := ?_) (v := ?_) ?_ (by kernel_rfl) (by kernel_rfl) (by kernel_rfl) ?_ ?_ (by assumption) ?_
  rotate_left 2
  · simp only [List.getElem?_toArray, List.getElem?_cons_succ, List.getElem?_cons_zero]; rfl
  · exact fun _ _ _ h => h
  · first
      | (refine Or.inr ⟨?_, ?_⟩ <;> rfl)
      | (refine Or.inl ⟨?_, ?_⟩; · rfl
         intro w hSw; (try dsimp only at hSw); go_simp; (try with_reducible rfl); done)
  try simp only [Act.put, List.setIfInBounds_toArray, List.set_cons_zero, List.set_cons_succ]
  refine wpAnyH_take (i := 9) (oi := ?_) (v := ?_) ?_ (by kernel_rfl) (by kernel_rfl) (by kernel_rfl) ?_ ?_ (by assumption) ?_
  rotate_left 2
  · simp only [List.getElem?_toArray, List.getElem?_cons_succ, List.getElem?_cons_zero]; rfl
  · exact fun _ _ _ h => h
  · first
      | (refine Or.inr ⟨?_, ?_⟩ <;> rfl)
      | (refine Or.inl ⟨?_, ?_⟩; · rfl
         intro w hSw; (try dsimp only at hSw); go_simp; (try with_reducible rfl); done)
  try simp only [Act.put, List.setIfInBounds_toArray, List.set_cons_zero, List.set_cons_succ]
  refine wpAnyH_done (by kernel_rfl) ?_ _
  clear hHeld
  have HS2 := Lib.hid (HS.out.fr (Fr.of_below HBd.out (fun _ => False)) (fun _ _ h => h))
  by_cases hle : tm + nl ≤ 2000
  · have hgt : ¬ (2000 : Int) < tm + nl := by omega
    have hbx := HS2.out.box.cell
    have hbf := HS2.out.box.free
    have hlt := HS2.out.box.lt
    go_wp2_with fail
    go_ret
    refine ⟨by rw [HOT.out, if_pos (by omega)]; rfl, own, ⟨g1, c1, g2, c2, vm, vt, ?_, HO.out⟩, ?_, fun _ hq => .inl hq⟩
    · rw [HST.out, if_pos (by omega)]
      have hst := HS2.out
      have hfr := (Fr.set w.drew ⟨s, 3, none⟩ (.int .i64 (tm + nl)))
      refine ⟨?_, hst.bs.fr hfr (fun e => hst.s1 e.symm), hst.tr.fr hfr (fun e => hst.s2 e.symm), hst.mv.fr hfr (fun q hq e => (hst.dm q hq).1 e), hst.tv.fr hfr (fun q hq e => (hst.dt q hq).1 e), hst.n12, hst.s1, hst.s2, hst.dm, hst.dt, hst.z1, hst.z2, hst.zs⟩
      have hb : Bx (w.setCell ⟨s, 3, none⟩ (.int .i64 (tm + nl))).drew s 56 _ := hst.box.set 3 (.int .i64 (tm + nl))
      simpa using hb
    · exact (Fr.of_below HBd.out own).trans ((Fr.set w.drew ⟨s, 3, none⟩ _).mono (fun q _ e => by rw [e]; exact (HO.out s).2 (.inl rfl)))
  · have hgt : (2000 : Int) < tm + nl := by omega
    go_wp2_with fail
    go_ret
    exact ⟨by rw [HOT.out, if_neg (by omega)]; rfl, own, by rw [HST.out, if_neg (by omega)]; exact ⟨g1, c1, g2, c2, vm, vt, HS2.out, HO.out⟩, Fr.of_below HBd.out own, fun _ hq => .inl hq⟩
end Go.Proofs.YtlkdmpfifpkpaaaGreatDoor
