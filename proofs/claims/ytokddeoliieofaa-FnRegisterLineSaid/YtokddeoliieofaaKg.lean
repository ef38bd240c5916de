/-
  RegisterTrains of the program.
-/
import Derived.Test.YtokddeoliieofaaKf
namespace Go.Proofs.Ytokddeoliieofaa
open Go.RowKit

/-- the minute at which the train in the section came in, before a note -/
def trE (ns : List (Int × ByteArray)) : Nat → Int
  | 0 => 0
  | k + 1 => if nL ns k = chN 101 then nM ns k else trE ns k
/-- the minutes of the trains that have left, before a note -/
def trI (ns : List (Int × ByteArray)) : Nat → List Int
  | 0 => []
  | k + 1 => if nL ns k = chN 108 then trI ns k ++ [nM ns k - trE ns k] else trI ns k
theorem trI_len (ns : List (Int × ByteArray)) : ∀ k, (trI ns k).length ≤ k
  | 0 => Nat.le_refl _
  | k + 1 => by
    have := trI_len ns k
    simp only [trI]
    split
    · simp; omega
    · omega
/-- what RegisterTrains gives -/
def trL (ns : List (Int × ByteArray)) : List Int := if sdV ns = true then trI ns ns.length else []
def iF (l : List Int) (i : Nat) : Int := (l[i]?).getD 0
theorem iF_old {l : List Int} {z : Int} {i : Nat} (h : i < l.length) : iF (l ++ [z]) i = iF l i := by
  unfold iF
  rw [List.getElem?_append_left h]
theorem iF_new {l : List Int} {z : Int} : iF (l ++ [z]) l.length = z := by
  unfold iF
  simp
/-- a row of ints of its own -/
def OwnI (w : World) (g cap : Nat) (l : List Int) : Prop := Own w g cap l.length 1 3 (fun i => .int .i64 (iF l i))
theorem trE_bd {ns : List (Int × ByteArray)} (h : rgV ns = true) : ∀ k, k ≤ ns.length → 0 ≤ trE ns k ∧ trE ns k ≤ 2000
  | 0, _ => by simp [trE]
  | k + 1, hk => by
    have ih := trE_bd h k (by omega)
    have h2 := (okN_true.1 ((rgV_true.1 h).2 k (by omega))).1
    have h3 : ∀ i, i < ns.length → 0 ≤ nM ns i := fun i => by
      induction i with
      | zero => intro hi; have := (okN_true.1 ((rgV_true.1 h).2 0 hi)).1.1; simpa [prM] using this
      | succ i ih => intro hi; have h4 := (okN_true.1 ((rgV_true.1 h).2 (i + 1) hi)).1.1; rw [prM_succ] at h4; have := ih (by omega); omega
    have h4 := h3 k (by omega)
    simp only [trE]
    split
    · omega
    · exact ih
theorem nM_bd {ns : List (Int × ByteArray)} (h : rgV ns = true) : ∀ i, i < ns.length → 0 ≤ nM ns i ∧ nM ns i ≤ 2000 := fun i => by
  induction i with
  | zero => intro hi; have h2 := (okN_true.1 ((rgV_true.1 h).2 0 hi)).1; simp [prM] at h2; omega
  | succ i ih => intro hi; have h4 := (okN_true.1 ((rgV_true.1 h).2 (i + 1) hi)).1; rw [prM_succ] at h4; have := ih (by omega); omega
theorem sdV_rg {ns : List (Int × ByteArray)} (h : sdV ns = true) : rgV ns = true := by
  unfold sdV at h
  rw [Bool.and_eq_true] at h
  exact h.1
/-- between two rounds of RegisterTrains -/
structure RtI (w wr : World) (r : Nat) (es : List Nat) (ns : List (Int × ByteArray)) (g cap : Nat) (l : List Int) : Prop where
  rg : RgC wr r es ns
  ow : OwnI wr g cap l
  d : g ≠ r
  de : ∀ i, i < es.length → g ≠ es.getD i 0
  gz : w.heap.size ≤ g
  bl : Below w.heap.size w wr
theorem RgC.kept {w w' : World} {r g : Nat} {es : List Nat} {ns : List (Int × ByteArray)} (h : RgC w r es ns) (hg : w.grownBy w' (some g)) (h1 : g ≠ r) (h2 : ∀ i, i < es.length → g ≠ es.getD i 0) : RgC w' r es ns :=
  ⟨h.box.kept hg (fun e => h1 e.symm), h.len, fun i hi => (h.ent i hi).kept hg (fun e => h2 i hi e.symm), h.dst, h.inj⟩
theorem rtI_push {w wr wa : World} {r : Nat} {es : List Nat} {ns : List (Int × ByteArray)} {g cap g' c' : Nat} {l : List Int} {z : Int} (h : RtI w wr r es ns g cap l) (HA : Own wa g' c' (l.length + 1) 1 3 (fun q => .int .i64 (iF (l ++ [z]) q))) (hgr : wr.grownBy wa (some g)) (hd : (g' = g ∧ c' = cap) ∨ wr.heap.size < g') :
    RtI w wa r es ns g' c' (l ++ [z]) := by
  have hgz := h.gz
  have hbs := h.bl.size
  have hrl := h.rg.box.lt
  refine ⟨h.rg.kept hgr h.d h.de, ?_, ?_, fun i hi => ?_, ?_, h.bl.trans (below_of_grown hgr h.gz h.bl.size)⟩
  · show Own _ _ _ _ _ _ _
    rw [List.length_append]
    exact HA
  · rcases hd with ⟨rfl, _⟩ | q
    · exact h.d
    · omega
  · rcases hd with ⟨rfl, _⟩ | q
    · exact h.de i hi
    · have := (h.rg.ent i hi).lt
      omega
  · rcases hd with ⟨rfl, _⟩ | q <;> omega
set_option linter.unusedSimpArgs false in
set_option maxRecDepth 100000 in
set_option maxHeartbeats 2000000 in
theorem trains_any (b off c : Nat) (ns : List (Int × ByteArray)) (w : World) (hn : ns.length ≤ 1000000000000) (hc : NtC w b off ns) :
    Calls Try.prog 21 #[.slice (some ⟨b, off, none⟩) ns.length c] w fun e w' => (∃ g cap, e = .returned (.slice (some ⟨g, 0, none⟩) (trL ns).length cap) ∧ w.heap.size ≤ g ∧ OwnI w' g cap (trL ns)) ∧ Below w.heap.size w w' := by
  have HSD := Lib.hid (soundOf_any b off c ns (w.alloc (.cells #[] 3)) hn (hc.keep (below_all _ _)))
  have HO0 : Hid (OwnI (w.alloc (.cells #[] 3)) w.heap.size 0 []) := own_empty _ _ _ _
  have HB0 : Hid (Below w.heap.size w (w.alloc (.cells #[] 3))) := below_all _ _
  clear hc
  go_enter Try.func21, Try.ntmps21
  go_wp2_with fail
  refine HSD.out.mono ?_
  rintro e w1 ⟨⟨r, rfl, hr⟩, hb1⟩
  have HO1 : Hid (OwnI w1 w.heap.size 0 []) := Own.below HO0.out hb1 (Own.lt HO0.out)
  have HB1 := Lib.hid (HB0.out.trans (hb1.mono (by simp)))
  cases hv : sdV ns
  · have HV : Hid (trL ns = []) := by show _ = _; unfold trL; rw [hv]; rfl
    clear hv hr hb1
    go_wp2_with fail
    go_ret
    exact ⟨⟨w.heap.size, 0, by rw [HV.out]; rfl, Nat.le_refl _, by rw [HV.out]; exact HO1.out⟩, HB1.out⟩
  have HV : Hid (trL ns = trI ns ns.length) := if_pos hv
  have HRV := Lib.hid (sdV_rg hv)
  obtain ⟨r', es, e, h1, h2⟩ := hr (rgV_true.1 HRV.out).1
  cases e
  have HI0 : Hid (RtI w w1 r es ns w.heap.size 0 []) := by
    have hz : w.heap.size < (w.alloc (.cells #[] 3)).heap.size := by simp
    refine ⟨h1, HO1.out, fun e => ?_, fun i hi e => ?_, Nat.le_refl _, HB1.out⟩
    · have := h2.1; omega
    · have := h2.2 i hi; omega
  have HL := Lib.hid h1.len
  have hl30 : ns.length ≤ 30 := (rgV_true.1 HRV.out).1
  have hle : es.length ≤ 30 := by rw [HL.out]; exact hl30
  have hrc := h1.box.cell
  clear hv h1 h2 hb1 hr
  go_wp2_with fail
  clear hrc
  go_loopw [3, 6, 7] (fun o a e wr => ∃ i : Nat, i ≤ es.length ∧ e = pE es i ∧ a = .int .i64 (trE ns i) ∧ ∃ g cap, o = .slice (some ⟨g, 0, none⟩) (trI ns i).length cap ∧ Hid (RtI w wr r es ns g cap (trI ns i))) (fun _ _ e _ => es.length - ixE es e)
  case atStart => exact ⟨0, Nat.zero_le _, rfl, rfl, w.heap.size, 0, rfl, HI0⟩
  case round =>
    obtain ⟨i, hi, he, rfl, g, cap, rfl, HI⟩ := hrel
    have HR : Hid (RgC wr r es ns) := HI.out.rg
    have HIX := Lib.hid (HR.out.ix hi)
    by_cases hlt : i < es.length
    · have HE := Lib.hid he
      rw [pE_some hlt] at he
      subst he
      have hec := (HR.out.ent i hlt).cell
      have HDE := Lib.hid (HI.out.de i hlt)
      have HEX := Lib.hid (HR.out.ent i hlt)
      generalize es.getD i 0 = eb at *
      have HIN : Hid (i < ns.length) := by show _ < _; rw [← HL.out]; exact hlt
      have HNX := Lib.hid (HR.out.ix (i := i + 1) (by omega))
      have hmb := nM_bd HRV.out i HIN.out
      have heb := trE_bd HRV.out i (by have := HIN.out; omega)
      have htl := trI_len ns i
      have HTE : Hid (trE ns (i + 1) = if nL ns i = chN 101 then nM ns i else trE ns i) := rfl
      have HTI : Hid (trI ns (i + 1) = if nL ns i = chN 108 then trI ns i ++ [nM ns i - trE ns i] else trI ns i) := rfl
      generalize nM ns i = m at *
      generalize nL ns i = l at *
      generalize trE ns i = en at *
      by_cases hl1 : l = chN 101
      · have HT1 : Hid (trE ns (i + 1) = m) := by show _ = _; rw [HTE.out, if_pos hl1]
        have HT2 : Hid (trI ns (i + 1) = trI ns i) := by
          show _ = _
          rw [HTI.out, if_neg (by rw [hl1]; decide)]
        have ht := tl_eq 101
        rw [← hl1] at ht
        have ht1 := ht.1
        clear hl1 ht
        go_wp2_with fail
        go_roundw
        case rel => exact ⟨i + 1, by omega, rfl, by rw [HT1.out], g, cap, by rw [HT2.out], by rw [HT2.out]; exact HI.out⟩
        case measure => rw [HE.out, HIX.out, HNX.out]; omega
      have ht1 := (tl_ne hl1).1
      have HT1 : Hid (trE ns (i + 1) = en) := by show _ = _; rw [HTE.out, if_neg hl1]
      clear hl1
      by_cases hl2 : l = chN 108
      · have HT2 : Hid (trI ns (i + 1) = trI ns i ++ [m - en]) := by show _ = _; rw [HTI.out, if_pos hl2]
        have ht := tl_eq 108
        rw [← hl2] at ht
        have ht2 := ht.1
        clear hl2 ht
        have hwm : IntKind.i64.wrap (m - en) = m - en := IntWalk.i64_in _ (by omega)
        go_wp2_with (at_builtin; refine wpList_pushI elInt rfl (.tmp 41) (.tmp 49) (by rfl) (f := fun q => iF (trI ns i ++ [m - en]) q) (Own.congr HI.out.ow (fun q hq => by rw [iF_old (by omega)])) (by rfl) (by rfl) (by exact iF_new.symm) (by omega) ?_; intro g' c' wa HA hgr hd; have hea := (HEX.out.kept hgr (fun e => HDE.out e.symm)).cell; have HI2 : Hid (RtI w wa r es ns g' c' (trI ns i ++ [m - en])) := rtI_push HI.out HA hgr hd; clear HA hgr hd hec)
        go_roundw
        case rel => exact ⟨i + 1, by omega, rfl, by rw [HT1.out], g', c', by rw [HT2.out]; simp, by rw [HT2.out]; exact HI2.out⟩
        case measure => rw [HE.out, HIX.out, HNX.out]; omega
      · have ht2 := (tl_ne hl2).1
        have HT2 : Hid (trI ns (i + 1) = trI ns i) := by show _ = _; rw [HTI.out, if_neg hl2]
        clear hl2
        go_wp2_with fail
        go_roundw
        case rel => exact ⟨i + 1, by omega, rfl, by rw [HT1.out], g, cap, by rw [HT2.out], by rw [HT2.out]; exact HI.out⟩
        case measure => rw [HE.out, HIX.out, HNX.out]; omega
    · rw [pE_none (by omega)] at he
      subst he
      obtain rfl : i = ns.length := by rw [← HL.out]; omega
      go_wp2_with fail
      go_ret
      exact ⟨⟨g, cap, by rw [HV.out]; rfl, HI.out.gz, by rw [HV.out]; exact HI.out.ow⟩, HI.out.bl⟩
end Go.Proofs.Ytokddeoliieofaa
