/-
  Registers: list; RegisterText, RegisterSound, RegisterUntil, RegisterBlock of the program.
-/
import Derived.Test.YtokddeoliieofaaKm
import Derived.Test.YtokddeoliieofaaKg
namespace Go.Proofs.Ytokddeoliieofaa
open Go.RowKit

/-- notes handed back in a row of their own -/
def NlRes (ns : List (Int × ByteArray)) (w : World) (e : Ending) (w' : World) : Prop :=
  (∃ g cap, e = .returned (.slice (some ⟨g, 0, none⟩) (List.length ns) cap) ∧ OwnN w' g cap ns ∧ w.heap.size ≤ g) ∧ Below w.heap.size w w'
/-- what list has made so far -/
structure LiI (w wr : World) (r : Nat) (es : List Nat) (ns : List (Int × ByteArray)) (g cap : Nat) (i : Nat) : Prop where
  rg : RgC wr r es ns
  ow : OwnN wr g cap (ns.take i)
  gz : w.heap.size ≤ g
  ob : r < w.heap.size ∧ ∀ j, j < es.length → es.getD j 0 < w.heap.size
  bl : Below w.heap.size w wr
theorem liI_next {w wr wa : World} {r : Nat} {es : List Nat} {ns : List (Int × ByteArray)} {g cap i g' c' : Nat} {z : Int × ByteArray} (h : LiI w wr r es ns g cap i) (htk : ns.take (i + 1) = ns.take i ++ [z]) (htl : (ns.take i).length = i)
    (HA : Own wa g' c' (i + 1) 2 61 (mvF (nM (ns.take i ++ [z])) (nL (ns.take i ++ [z])))) (hgr : wr.grownBy wa (some g)) (hd : (g' = g ∧ c' = cap) ∨ wr.heap.size < g') : LiI w wa r es ns g' c' (i + 1) := by
  have hgz := h.gz
  have hbs := h.bl.size
  have hob := h.ob
  refine ⟨h.rg.kept hgr (by omega) (fun j hj => by have := hob.2 j hj; omega), ?_, ?_, hob, h.bl.trans (below_of_grown hgr hgz hbs)⟩
  · unfold OwnN
    rw [htk, List.length_append, htl]
    exact HA
  · rcases hd with ⟨q, _⟩ | q <;> omega
set_option linter.unusedSimpArgs false in
set_option maxRecDepth 100000 in
set_option maxHeartbeats 2000000 in
theorem list_any (r : Nat) (es : List Nat) (ns : List (Int × ByteArray)) (w : World) (h : RgC w r es ns) (hn : ns.length ≤ 1000) :
    Calls Try.prog 78 #[.pointer (some ⟨r, 0, none⟩)] w (NlRes ns w) := by
  have hrc := h.box.cell
  have hrl := h.box.lt
  have HL := Lib.hid h.len
  have hl : es.length ≤ 1000 := by rw [HL.out]; exact hn
  have hmk := fun w => run_mk0 elMv es.length (by omega) (by omega) w
  have HI0 : Hid (LiI w (w.alloc (.cells (madeCells #[.int .i64 0, .string ⟨#[]⟩] (es.length * 2)) 61)) r es ns w.heap.size es.length 0) :=
    ⟨h.alloc _, ⟨Nat.zero_le _, by unfold maxLen; omega, _, heap_alloc_new _ _, size_madeCells _ _, fun i hi => by simp at hi⟩, Nat.le_refl _, ⟨h.box.lt, fun j hj => (h.ent j hj).lt⟩, below_all _ _⟩
  clear h
  go_enter Try.func78, Try.ntmps78
  go_wp2_with fail
  clear hrc hmk
  go_loopw [3, 4] (fun o e wr => ∃ i : Nat, i ≤ es.length ∧ e = pE es i ∧ ∃ g cap, o = .slice (some ⟨g, 0, none⟩) i cap ∧ Hid (LiI w wr r es ns g cap i)) (fun _ e _ => es.length - ixE es e)
  case atStart => exact ⟨0, Nat.zero_le _, rfl, w.heap.size, es.length, rfl, HI0⟩
  case round =>
    obtain ⟨i, hi, he, g, cap, rfl, HI⟩ := hrel
    have HR : Hid (RgC wr r es ns) := HI.out.rg
    have HIX := Lib.hid (HR.out.ix hi)
    by_cases hlt : i < es.length
    · have HEX := Lib.hid (HR.out.ent i hlt)
      have HDE : Hid (es.getD i 0 ≠ g) := by have h1 := HI.out.ob.2 i hlt; have h2 := HI.out.gz; show _ ≠ _; omega
      have HE := Lib.hid he
      rw [pE_some hlt] at he
      subst he
      have hec := (HR.out.ent i hlt).cell
      generalize es.getD i 0 = eb at *
      have HIN : Hid (i < ns.length) := by show _ < _; rw [← HL.out]; exact hlt
      have HNX := Lib.hid (HR.out.ix (i := i + 1) (by omega))
      have HTK : Hid (ns.take (i + 1) = ns.take i ++ [(nM ns i, nL ns i)]) := by show _ = _; rw [nM_at HIN.out, nL_at HIN.out]; exact List.take_succ_eq_append_getElem HIN.out
      have HTL : Hid ((ns.take i).length = i) := by show _ = _; have := HIN.out; simp; omega
      generalize nM ns i = x at *
      generalize nL ns i = l at *
      have HN : Hid (∀ j, j < 2 → [Value.int .i64 x, .string l][j]? = some (mvF (nM (ns.take i ++ [(x, l)])) (nL (ns.take i ++ [(x, l)])) (i * 2 + j))) := by
        have h := ntF_new (ns.take i) (x, l)
        rw [HTL.out] at h
        exact h
      have HO : Hid (Own wr g cap i 2 61 (mvF (nM (ns.take i ++ [(x, l)])) (nL (ns.take i ++ [(x, l)])))) := by
        have h := OwnN.ext HI.out.ow (x, l)
        rw [HTL.out] at h
        exact h
      have hgz := HI.out.gz
      have hbs := HI.out.bl.size
      go_wp2_with (at_builtin; refine wpList_push elMv rfl (.tmp 20) (.tmp 25) rfl HO.out rfl [.int .i64 x, .string l] (by show Value.slice _ 1 1 = _; simp) HN.out (fun _ _ => mvF_one _ _ _) (by unfold maxLen; omega) (by omega) ?_; intro g' c' wa HA hgr hd; have hea := (HEX.out.kept hgr HDE.out).cell; have HI2 : Hid (LiI w wa r es ns g' c' (i + 1)) := liI_next HI.out HTK.out HTL.out HA hgr hd; clear HA hgr hd hec)
      go_roundw
      case rel => exact ⟨i + 1, by omega, rfl, g', c', rfl, HI2⟩
      case measure => rw [HE.out, HIX.out, HNX.out]; omega
    · rw [pE_none (by omega)] at he
      subst he
      obtain rfl : i = ns.length := by rw [← HL.out]; omega
      have HO : Hid (OwnN wr g cap ns) := by have h := HI.out.ow; rwa [List.take_length] at h
      go_wp2_with fail
      go_ret
      exact ⟨⟨g, cap, rfl, HO.out, HI.out.gz⟩, HI.out.bl⟩
set_option linter.unusedSimpArgs false in
theorem sound_any (b off c : Nat) (ns : List (Int × ByteArray)) (w : World) (hn : ns.length ≤ 1000000000000) (hc : NtC w b off ns) :
    Calls Try.prog 28 #[.slice (some ⟨b, off, none⟩) ns.length c] w fun e w' => e = .returned (.bool (sdV ns)) ∧ Below w.heap.size w w' := by
  have HSO := Lib.hid (soundOf_any b off c ns w hn hc)
  clear hc
  go_enter Try.func28, Try.ntmps28
  go_wp2_with fail
  refine HSO.out.mono ?_
  rintro e w1 ⟨⟨r, rfl, hr⟩, hb1⟩
  have HB := Lib.hid hb1
  clear hr hb1
  go_wp2_with fail
  go_ret
  exact ⟨rfl, HB.out⟩
/-- what RegisterText gives -/
def rtT (ns : List (Int × ByteArray)) : ByteArray := if rgV ns = true then txN ns else ⟨#[]⟩
set_option linter.unusedSimpArgs false in
theorem regText_any (b off c : Nat) (ns : List (Int × ByteArray)) (w : World) (hn : ns.length ≤ 1000000000000) (hc : NtC w b off ns) :
    Calls Try.prog 34 #[.slice (some ⟨b, off, none⟩) ns.length c] w fun e w' => e = .returned (.string (rtT ns)) ∧ Below w.heap.size w w' := by
  have HSO := Lib.hid (registerOf_any b off c ns w hn hc)
  clear hc
  go_enter Try.func34, Try.ntmps34
  go_wp2_with fail
  refine HSO.out.mono ?_
  rintro e w1 ⟨⟨r, rfl, hr⟩, hb1⟩
  have HB := Lib.hid hb1
  cases hv : rgV ns
  · have HV : Hid (rtT ns = ⟨#[]⟩) := by show _ = _; unfold rtT; rw [hv]; rfl
    clear hr hb1 hv
    go_wp2_with fail
    go_ret
    exact ⟨by rw [HV.out]; rfl, HB.out⟩
  · have HV : Hid (rtT ns = txN ns) := if_pos hv
    obtain ⟨r', es, e, h1, h2⟩ := hr (rgV_true.1 hv).1
    cases e
    have HT := Lib.hid (text_any r es ns w1 h1 (by have := (rgV_true.1 hv).1; omega) (fun z hz => by rw [rgV_sz hv z hz]; omega))
    clear hr hb1 hv h1 h2
    go_wp2_with fail
    refine HT.out.mono ?_
    rintro e w2 ⟨rfl, hb2⟩
    have HB2 := Lib.hid (HB.out.trans (hb2.mono HB.out.size))
    clear hb2
    go_wp2_with fail
    go_ret
    exact ⟨by rw [HV.out]; rfl, HB2.out⟩
/-- what RegisterUntil gives -/
def ruL (ns : List (Int × ByteArray)) (m : Int) : List (Int × ByteArray) := if rgV ns = true then utL ns m else []
def RuRes (ns : List (Int × ByteArray)) (ok : Bool) (w : World) (e : Ending) (w' : World) : Prop :=
  (∃ g cap, e = .returned (.tuple #[.slice (some ⟨g, 0, none⟩) (List.length ns) cap, .bool ok]) ∧ OwnN w' g cap ns ∧ w.heap.size ≤ g) ∧ Below w.heap.size w w'
theorem utL_len (ns : List (Int × ByteArray)) (m : Int) : (utL ns m).length ≤ ns.length := by
  unfold utL
  exact (List.takeWhile_sublist _).length_le
set_option linter.unusedSimpArgs false in
theorem regUntil_any (b off c : Nat) (ns : List (Int × ByteArray)) (m : Int) (w : World) (hn : ns.length ≤ 1000000000000) (hc : NtC w b off ns) :
    Calls Try.prog 30 #[.slice (some ⟨b, off, none⟩) ns.length c, .int .i64 m] w (RuRes (ruL ns m) (rgV ns) w) := by
  have HSO := Lib.hid (registerOf_any b off c ns w hn hc)
  clear hc
  go_enter Try.func30, Try.ntmps30
  go_wp2_with fail
  refine HSO.out.mono ?_
  rintro e w1 ⟨⟨r, rfl, hr⟩, hb1⟩
  have HB := Lib.hid hb1
  cases hv : rgV ns
  · have HV : Hid (ruL ns m = []) := by show _ = _; unfold ruL; rw [hv]; rfl
    have HRV := Lib.hid hv
    clear hr hb1 hv
    go_wp2_with fail
    go_ret2
    exact ⟨⟨w1.heap.size, 0, by rw [HV.out, HRV.out]; rfl, by rw [HV.out]; exact own_empty _ _ _ _, HB.out.size⟩, HB.out.alloc HB.out.size _⟩
  · have HV : Hid (ruL ns m = utL ns m) := if_pos hv
    have HRV := Lib.hid hv
    obtain ⟨r', es, e, h1, h2⟩ := hr (rgV_true.1 hv).1
    cases e
    have hl30 := (rgV_true.1 hv).1
    have HT := Lib.hid (until_any r es ns m w1 h1 (by omega))
    clear hr hb1 hv h1 h2
    go_wp2_with fail
    refine HT.out.mono ?_
    rintro e w2 ⟨⟨q, fs, rfl, hq, hqb⟩, hb2⟩
    have HB2 := Lib.hid (HB.out.trans (hb2.mono HB.out.size))
    have HLI := Lib.hid (list_any q fs (utL ns m) w2 hq (by have := utL_len ns m; omega))
    clear hb2 hq hqb
    go_wp2_with fail
    refine HLI.out.mono ?_
    rintro e w3 ⟨⟨g, cap, rfl, ho, hg⟩, hb3⟩
    have HO := Lib.hid ho
    have HB3 := Lib.hid (HB2.out.trans (hb3.mono HB2.out.size))
    have hz2 := HB2.out.size
    clear hb3 ho
    go_wp2_with fail
    go_ret2
    exact ⟨⟨g, cap, by rw [HV.out, HRV.out]; rfl, by rw [HV.out]; exact HO.out, by omega⟩, HB3.out⟩
end Go.Proofs.Ytokddeoliieofaa
