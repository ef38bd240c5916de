/-
  Registers: registerOf, soundOf of the program; RegisterSound of the reference.
-/
import Derived.Test.YtokddeoliieofaaKe
namespace Go.Proofs.Ytokddeoliieofaa
open Go.RowKit

/-- a register in new memory -/
def RgR (z : Nat) (w : World) (v : Value) (ns : List (Int × ByteArray)) : Prop :=
  ∃ r es, v = .pointer (some ⟨r, 0, none⟩) ∧ RgC w r es ns ∧ RgB z r es
theorem RgR.below {z : Nat} {w w' : World} {v : Value} {ns : List (Int × ByteArray)} (h : RgR z w v ns) (hb : Below w.heap.size w w') : RgR z w' v ns := by
  obtain ⟨r, es, e, h1, h2⟩ := h
  exact ⟨r, es, e, h1.below hb (Nat.le_refl _), h2⟩
/-- what registerOf and soundOf hand back -/
def RgRes (ok : Bool) (ns : List (Int × ByteArray)) (w : World) (e : Ending) (w' : World) : Prop :=
  (∃ r, e = .returned (.tuple #[.pointer (some ⟨r, 0, none⟩), .bool ok]) ∧ (ns.length ≤ 30 → RgR w.heap.size w' (.pointer (some ⟨r, 0, none⟩)) ns)) ∧ Below w.heap.size w w'
set_option linter.unusedSimpArgs false in
set_option maxHeartbeats 1000000 in
theorem registerOf_any (b off c : Nat) (ns : List (Int × ByteArray)) (w : World) (hn : ns.length ≤ 1000000000000) (hc : NtC w b off ns) :
    Calls Try.prog 64 #[.slice (some ⟨b, off, none⟩) ns.length c] w (RgRes (rgV ns) ns w) := by
  have HC : Hid (∀ w', Below w.heap.size w w' → NtC w' b off ns) := fun w' hb => hc.keep hb
  have HX : Hid (Bx (w.alloc (.cells #[.pointer none, .pointer none, .int .i64 0] 92)) w.heap.size 92 #[.pointer none, .pointer none, .int .i64 0]) := Bx.new _ _ _
  have HBB : Hid (Below w.heap.size w (w.alloc (.cells #[.pointer none, .pointer none, .int .i64 0] 92))) := below_all _ _
  clear hc
  by_cases h30 : (30 : Int) < (ns.length : Int)
  · have HV : Hid (rgV ns = false) := rgV_long (by omega)
    go_enter Try.func64, Try.ntmps64
    go_wp2_with fail
    go_ret2
    exact ⟨⟨w.heap.size, by rw [HV.out]; rfl, fun h => by omega⟩, HBB.out⟩
  go_enter Try.func64, Try.ntmps64
  go_wp2_with fail
  go_loopw [6, 15] (fun _ i wr => ∃ k : Nat, k ≤ ns.length ∧ i = .int .i64 k ∧ ∃ es, Hid (RgC wr w.heap.size es (ns.take k) ∧ RgB w.heap.size w.heap.size es) ∧ Hid (Below w.heap.size w wr)) (fun _ i _ => ns.length - (intOf i).toNat)
  case atStart => exact ⟨0, Nat.zero_le _, rfl, [], Lib.hid ⟨RgC.nil HX.out, Nat.le_refl _, fun i hi => by simp at hi⟩, HBB⟩
  case round =>
    obtain ⟨k, hk, rfl, es, HR, HB⟩ := hrel
    by_cases hlt : k < ns.length
    · obtain ⟨c0, c1⟩ := HC.out _ HB.out k hlt
      have HTK : Hid (ns.take (k + 1) = ns.take k ++ [(nM ns k, nL ns k)]) := by show _ = _; rw [nM_at hlt, nL_at hlt]; exact List.take_succ_eq_append_getElem hlt
      have HLT : Hid ((ns.take k).length ≤ 1000000) := by show _ ≤ _; simp; omega
      generalize nM ns k = m at *
      generalize nL ns k = l at *
      have HPT : Hid (∀ o, Calls Try.prog 83 #[.pointer (some ⟨w.heap.size, 0, none⟩), .agg #[.int .i64 m, .string l]] (wr.alloc o) fun e w' => e = .returned (.tuple #[]) ∧ (∃ b, (wr.alloc o).heap.size ≤ b ∧ RgC w' w.heap.size (es ++ [b]) (ns.take k ++ [(m, l)])) ∧ Below w.heap.size (wr.alloc o) w') := fun o => put_any w.heap.size w.heap.size es (ns.take k) (m, l) (wr.alloc o) (HR.out.1.alloc _) HLT.out HR.out.2 (by have := HB.out.size; simp; omega)
      go_wp2_with fail
      refine (HPT.out _).mono ?_
      rintro e w2 ⟨rfl, ⟨bn, hbn, hrg⟩, hb2⟩
      have HR2 : Hid (RgC w2 w.heap.size (es ++ [bn]) (ns.take (k + 1)) ∧ RgB w.heap.size w.heap.size (es ++ [bn])) := ⟨by rw [HTK.out]; exact hrg, HR.out.2.push (by have := HB.out.size; simp at hbn; omega)⟩
      have HB2 : Hid (Below w.heap.size w w2) := (HB.out.alloc HB.out.size _).trans hb2
      clear hrg hb2 hbn
      go_wp2_with fail
      go_roundw
      case rel => exact ⟨k + 1, by omega, by go_num, es ++ [bn], HR2, HB2⟩
      case measure => simp [intOf]; omega
    · obtain e : k = ns.length := by omega
      subst e
      have HR3 : Hid (RgC wr w.heap.size es ns) := by have h := HR.out.1; rwa [List.take_length] at h
      have HVD := Lib.hid (valid_any w.heap.size es ns wr HR3.out (by omega))
      go_wp2_with fail
      refine HVD.out.mono ?_
      rintro e w' ⟨rfl, rfl⟩
      go_wp2_with fail
      go_ret2
      exact ⟨⟨w.heap.size, rfl, fun _ => ⟨_, es, rfl, HR3.out, HR.out.2⟩⟩, HB.out⟩
/-- the text of a list of notes -/
def txN (ns : List (Int × ByteArray)) : ByteArray := ⟨(rgT ns).toArray⟩
/-- a list of notes is a register that is sound -/
def sdV (ns : List (Int × ByteArray)) : Bool := rgV ns && lgB (txN ns)
set_option linter.unusedSimpArgs false in
theorem soundOf_any (b off c : Nat) (ns : List (Int × ByteArray)) (w : World) (hn : ns.length ≤ 1000000000000) (hc : NtC w b off ns) :
    Calls Try.prog 71 #[.slice (some ⟨b, off, none⟩) ns.length c] w (RgRes (sdV ns) ns w) := by
  have HRO := Lib.hid (registerOf_any b off c ns w hn hc)
  clear hc
  go_enter Try.func71, Try.ntmps71
  go_wp2_with fail
  refine HRO.out.mono ?_
  rintro e w1 ⟨⟨r, rfl, hr⟩, hb1⟩
  have HR := Lib.hid hr
  have HB := Lib.hid hb1
  clear hr hb1
  cases hv : rgV ns
  · have HV : Hid (sdV ns = false) := by show _ = _; unfold sdV; rw [hv]; rfl
    clear hv
    go_wp2_with fail
    go_ret2
    exact ⟨⟨r, by rw [HV.out]; rfl, HR.out⟩, HB.out⟩
  · have HV : Hid (sdV ns = lgB (txN ns)) := by show _ = _; unfold sdV; rw [hv]; rfl
    obtain ⟨r', es, e, h1, h2⟩ := HR.out (rgV_true.1 hv).1
    cases e
    have HT := Lib.hid (text_any r es ns w1 h1 (by have := (rgV_true.1 hv).1; omega) (fun z hz => by rw [rgV_sz hv z hz]; omega))
    clear hv h1 h2
    go_wp2_with fail
    refine HT.out.mono ?_
    rintro e w2 ⟨rfl, hb2⟩
    have HR2 : Hid (ns.length ≤ 30 → RgR w.heap.size w2 (.pointer (some ⟨r, 0, none⟩)) ns) := fun h => (HR.out h).below hb2
    have HB2 := Lib.hid (HB.out.trans (hb2.mono HB.out.size))
    clear hb2
    go_wp2_with fail
    refine (implLegal_any _ _).mono ?_
    rintro e w3 ⟨rfl, hb3⟩
    have HR3 : Hid (ns.length ≤ 30 → RgR w.heap.size w3 (.pointer (some ⟨r, 0, none⟩)) ns) := fun h => (HR2.out h).below hb3
    have HB3 := Lib.hid (HB2.out.trans (hb3.mono HB2.out.size))
    clear hb3
    go_wp2_with fail
    go_ret2
    exact ⟨⟨r, by rw [HV.out]; rfl, HR3.out⟩, HB3.out⟩
theorem specSound_any (b off c : Nat) (ns : List (Int × ByteArray)) (w : World) (hn : ns.length ≤ 1000000000000) (hc : NtC w b off ns) :
    Calls Try.prog 29 #[.slice (some ⟨b, off, none⟩) ns.length c] w fun e w' => e = .returned (.bool (sdV ns)) ∧ Below w.heap.size w w' := by
  have HVA := Lib.hid (specValid_any b off c ns w hn hc)
  cases hv : rgV ns
  · have HV : Hid (sdV ns = false) := by show _ = _; unfold sdV; rw [hv]; rfl
    have HF := Lib.hid hv
    clear hv hc
    go_enter Try.func29, Try.ntmps29
    go_wp2_with fail
    refine HVA.out.mono ?_
    rintro e w' ⟨rfl, rfl⟩
    rw [HF.out]
    go_wp2_with fail
    go_ret
    exact ⟨by rw [HV.out]; rfl, Below.refl _ _⟩
  · have HV : Hid (sdV ns = lgB (txN ns)) := by show _ = _; unfold sdV; rw [hv]; rfl
    have HT := Lib.hid (specText_any b off c ns w (by have := (rgV_true.1 hv).1; omega) (fun z hz => by rw [rgV_sz hv z hz]; omega) hc)
    have HF := Lib.hid hv
    clear hv hc
    go_enter Try.func29, Try.ntmps29
    go_wp2_with fail
    refine HVA.out.mono ?_
    rintro e w' ⟨rfl, rfl⟩
    rw [HF.out]
    go_wp2_with fail
    refine HT.out.mono ?_
    rintro e w' ⟨rfl, rfl⟩
    go_wp2_with fail
    refine (specLegal_any _ _).mono ?_
    rintro e w3 ⟨rfl, hb3⟩
    have HB3 := Lib.hid hb3
    clear hb3
    go_wp2_with fail
    go_ret
    exact ⟨by rw [HV.out]; rfl, HB3.out⟩
end Go.Proofs.Ytokddeoliieofaa
