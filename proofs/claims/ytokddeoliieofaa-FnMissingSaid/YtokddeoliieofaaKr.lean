/-
  RegisterLate of the program; sumOf, countOf of the laws.
-/
import Derived.Test.YtokddeoliieofaaKq
namespace Go.Proofs.Ytokddeoliieofaa
open Go.RowKit

theorem nM_set {ns : List (Int × ByteArray)} {i : Nat} (hi : i < ns.length) (z : Int × ByteArray) (j : Nat) : nM (ns.set i z) j = (if j = i then z.1 else nM ns j) ∧ nL (ns.set i z) j = (if j = i then z.2 else nL ns j) := by
  unfold nM nL
  by_cases h : j = i
  · subst h
    rw [if_pos rfl, if_pos rfl]
    simp [hi]
  · rw [if_neg h, if_neg h, List.getElem?_set_ne (by omega)]
    exact ⟨rfl, rfl⟩
theorem RgC.setM {w : World} {r : Nat} {es : List Nat} {ns : List (Int × ByteArray)} (h : RgC w r es ns) {i : Nat} (hi : i < es.length) (v : Int) :
    RgC (w.setCell ⟨es.getD i 0, 0, none⟩ (.int .i64 v)) r es (ns.set i (v, nL ns i)) := by
  have hl := h.len
  refine ⟨h.box.setOther (fun e => h.dst i hi e.symm) _, by simpa using hl, fun j hj => ?_, h.dst, h.inj⟩
  obtain ⟨e1, e2⟩ := nM_set (ns := ns) (i := i) (by omega) (v, nL ns i) j
  rw [e1, e2]
  by_cases hji : j = i
  · subst hji
    rw [if_pos rfl, if_pos rfl]
    have h2 := (h.ent j hj).set 0 (.int .i64 v)
    simpa using h2
  · rw [if_neg hji, if_neg hji]
    exact (h.ent j hj).setOther (fun e => hji (h.inj j i hj hi e)) _
/-- a note later -/
def shN (k : Int) (z : Int × ByteArray) : Int × ByteArray := (z.1 + k, z.2)
/-- the first notes later -/
def shI (k : Int) (ns : List (Int × ByteArray)) : Nat → List (Int × ByteArray)
  | 0 => ns
  | i + 1 => (shI k ns i).set i (nM ns i + k, nL ns i)
theorem shI_len (k : Int) (ns : List (Int × ByteArray)) : ∀ i, (shI k ns i).length = ns.length
  | 0 => rfl
  | i + 1 => by simp only [shI, List.length_set]; exact shI_len k ns i
theorem shI_at (k : Int) (ns : List (Int × ByteArray)) : ∀ i, i ≤ ns.length → ∀ j : Nat, (shI k ns i)[j]? = if j < i then (ns[j]?).map (shN k) else ns[j]?
  | 0, _, j => by rw [if_neg (by omega)]; rfl
  | i + 1, hi, j => by
    have ih := shI_at k ns i (by omega) j
    show ((shI k ns i).set i (nM ns i + k, nL ns i))[j]? = _
    by_cases h : j = i
    · subst h
      have hl := shI_len k ns j
      rw [List.getElem?_set_self (by omega), if_pos (by omega), List.getElem?_eq_getElem (show j < ns.length by omega), nM_at (by omega), nL_at (by omega)]
      rfl
    · rw [List.getElem?_set_ne (by omega), ih]
      by_cases h2 : j < i
      · rw [if_pos h2, if_pos (by omega)]
      · rw [if_neg h2, if_neg (by omega)]
theorem shI_old (k : Int) (ns : List (Int × ByteArray)) {i : Nat} (hi : i < ns.length) : nM (shI k ns i) i = nM ns i ∧ nL (shI k ns i) i = nL ns i := by
  unfold nM nL
  rw [shI_at k ns i (by omega) i, if_neg (by omega)]
  exact ⟨rfl, rfl⟩
theorem shI_all (k : Int) (ns : List (Int × ByteArray)) : shI k ns ns.length = ns.map (shN k) := by
  apply List.ext_getElem?
  intro j
  rw [shI_at k ns _ (Nat.le_refl _), List.getElem?_map]
  by_cases h : j < ns.length
  · rw [if_pos h]
  · rw [if_neg h, List.getElem?_eq_none (by omega)]; rfl
/-- what RegisterLate gives -/
def ltL (k : Int) (ns : List (Int × ByteArray)) : List (Int × ByteArray) := if rgV (ns.map (shN k)) = true then ns.map (shN k) else []
structure LtI (w wr : World) (r : Nat) (es : List Nat) (ns : List (Int × ByteArray)) : Prop where
  rg : RgC wr r es ns
  rb : RgB w.heap.size r es
  bl : Below w.heap.size w wr
theorem LtI.next {w wr : World} {r i : Nat} {es : List Nat} {ns : List (Int × ByteArray)} {k : Int} (h : LtI w wr r es (shI k ns i)) (hi : i < es.length) (hn : i < ns.length) :
    LtI w (wr.setCell ⟨es.getD i 0, 0, none⟩ (.int .i64 (nM ns i + k))) r es (shI k ns (i + 1)) := by
  have h2 := h.rg.setM hi (nM ns i + k)
  rw [(shI_old k ns hn).2] at h2
  exact ⟨h2, h.rb, h.bl.setCell (h.rb.2 i hi) _⟩
set_option linter.unusedSimpArgs false in
set_option maxRecDepth 100000 in
set_option maxHeartbeats 2000000 in
theorem regLate_any (b off c : Nat) (ns : List (Int × ByteArray)) (k : Int) (w : World) (hv : rgV ns = true) (h0 : 0 < ns.length) (hk : -2000 ≤ k ∧ k ≤ 2000) (hc : NtC w b off ns) :
    Calls Try.prog 42 #[.slice (some ⟨b, off, none⟩) ns.length c, .int .i64 k] w (RuRes (ltL k ns) (rgV (ns.map (shN k))) w) := by
  have hl30 := (rgV_true.1 hv).1
  have HSO := Lib.hid (registerOf_any b off c ns w (by omega) hc)
  have HMB := Lib.hid (nM_bd hv)
  rw [hv] at HSO
  clear hc hv
  obtain ⟨hk1, hk2⟩ := hk
  go_enter Try.func42, Try.ntmps42
  go_wp2_with fail
  refine HSO.out.mono ?_
  rintro e w1 ⟨⟨r, rfl, hr⟩, hb1⟩
  obtain ⟨r', es, e, h1, h2⟩ := hr hl30
  cases e
  have HI0 : Hid (LtI w w1 r es (shI k ns 0)) := ⟨h1, h2, hb1⟩
  have HL := Lib.hid h1.len
  have hel : es.length ≤ 30 := by rw [HL.out]; exact hl30
  have hpos : 0 < es.length := by rw [HL.out]; exact h0
  have hrc := h1.box.cell
  clear h1 h2 hr hb1
  go_wp2_with fail
  clear hrc
  go_loopw [8] (fun e wr => ∃ i : Nat, i ≤ es.length ∧ e = pE es i ∧ Hid (LtI w wr r es (shI k ns i))) (fun e _ => es.length - ixE es e)
  case atStart => exact ⟨0, Nat.zero_le _, rfl, HI0⟩
  case round =>
    obtain ⟨i, hi, he, HI⟩ := hrel
    have HR : Hid (RgC wr r es (shI k ns i)) := HI.out.rg
    have HIX := Lib.hid (HR.out.ix hi)
    by_cases hlt : i < es.length
    · have HIN : Hid (i < ns.length) := by show _ < _; rw [← HL.out]; exact hlt
      have hmb := HMB.out i HIN.out
      have HI2 := Lib.hid (HI.out.next hlt HIN.out)
      have HE := Lib.hid he
      rw [pE_some hlt] at he
      subst he
      have hec := (HR.out.ent i hlt).cell
      have hec2 := (HI2.out.rg.ent i hlt).cell
      have hef := (HR.out.ent i hlt).free
      rw [(shI_old k ns HIN.out).1, (shI_old k ns HIN.out).2] at hec
      generalize es.getD i 0 = eb at *
      have HNX := Lib.hid (HR.out.ix (i := i + 1) (by omega))
      generalize nM ns i = x at *
      have hwm : IntKind.i64.wrap (x + k) = x + k := IntWalk.i64_in _ (by omega)
      go_wp2_with fail
      go_roundw
      case rel => exact ⟨i + 1, by omega, rfl, HI2⟩
      case measure => rw [HE.out, HIX.out, HNX.out]; omega
    · rw [pE_none (by omega)] at he
      subst he
      obtain rfl : i = ns.length := by rw [← HL.out]; omega
      have HR2 : Hid (RgC wr r es (ns.map (shN k))) := by have h := HI.out.rg; rwa [shI_all] at h
      have hml : (ns.map (shN k)).length ≤ 30 := by simpa using hl30
      have HVD := Lib.hid (valid_any r es (ns.map (shN k)) wr HR2.out (by omega))
      have HLI := Lib.hid (list_any r es (ns.map (shN k)) wr HR2.out (by omega))
      cases hv2 : rgV (ns.map (shN k))
      · have HV : Hid (ltL k ns = []) := by show _ = _; unfold ltL; rw [hv2]; rfl
        rw [hv2] at HVD
        have HF := Lib.hid hv2
        clear hv2
        go_wp2_with fail
        refine HVD.out.mono ?_
        rintro e w2 ⟨rfl, rfl⟩
        have hbs := HI.out.bl.size
        go_wp2_with fail
        go_ret2
        exact ⟨⟨wr.heap.size, 0, by rw [HV.out, HF.out]; rfl, by rw [HV.out]; exact own_empty _ _ _ _, hbs⟩, HI.out.bl.alloc hbs _⟩
      · have HV : Hid (ltL k ns = ns.map (shN k)) := if_pos hv2
        rw [hv2] at HVD
        have HF := Lib.hid hv2
        clear hv2
        go_wp2_with fail
        refine HVD.out.mono ?_
        rintro e w2 ⟨rfl, rfl⟩
        go_wp2_with fail
        refine HLI.out.mono ?_
        rintro e w3 ⟨⟨g, cap, rfl, ho, hg⟩, hb3⟩
        have HO := Lib.hid ho
        have hbs := HI.out.bl.size
        have HB3 := Lib.hid (HI.out.bl.trans (hb3.mono hbs))
        clear hb3 ho
        go_wp2_with fail
        go_ret2
        exact ⟨⟨g, cap, by rw [HV.out, HF.out, List.length_map]; rfl, by rw [HV.out]; exact HO.out, by omega⟩, HB3.out⟩
end Go.Proofs.Ytokddeoliieofaa
