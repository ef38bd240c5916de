/-
  Registers: isEvent, valid, text, registerOf.
-/
import Derived.Test.YtokddeoliieofaaKa
import Derived.Test.YtokddeoliieofaaSh
import Derived.Lib.IndexLaws
namespace Go.Proofs.Ytokddeoliieofaa
open Go.RowKit

/-- the letters of events -/
def evL : List UInt8 := [97, 99, 101, 102, 108, 111, 114]
def evB (l : ByteArray) : Bool := match l.data.toList with | [c] => evL.contains c | _ => false
def chN (c : UInt8) : ByteArray := ⟨#[c]⟩
theorem chN_of {l : ByteArray} (h : l.size = 1) : ∃ c, l = chN c := by
  obtain ⟨d⟩ := l
  have hd : d.size = 1 := h
  obtain ⟨c, rfl⟩ := Array.size_eq_one_iff.1 hd
  exact ⟨c, rfl⟩
theorem evB_size {l : ByteArray} (h : evB l = true) : l.size = 1 := by
  unfold evB at h
  have hs : l.data.toList.length = l.size := by simp
  split at h
  · rename_i c e
    rw [e] at hs
    exact hs.symm
  · cases h
theorem evB_chN (c : UInt8) : evB (chN c) = decide (0 ≤ Lib.indexByte evL c) := by
  show evL.contains c = _
  have h1 := Lib.indexByte_ge evL c
  rw [Bool.eq_iff_iff, decide_eq_true_eq]
  constructor
  · intro h
    rcases Int.lt_or_le (Lib.indexByte evL c) 0 with h2 | h2
    · exfalso
      have h3 := Lib.indexByte_none (show Lib.indexByte evL c = -1 by omega)
      rw [List.contains_iff_mem] at h
      obtain ⟨k, hk⟩ := List.getElem?_of_mem h
      exact h3 k hk
    · exact h2
  · intro h
    obtain ⟨o, ho⟩ := Int.eq_ofNat_of_zero_le h
    have h3 := (Lib.indexByte_some (l := evL) (c := c) (o := o) ho).1
    rw [List.contains_iff_mem]
    exact List.mem_of_getElem? h3
theorem evB_long {l : ByteArray} (h : l.size ≠ 1) : evB l = false := by
  cases e : evB l
  · rfl
  · exact absurd (evB_size e) h
theorem isEvent_any (l : ByteArray) (w : World) :
    Calls Try.prog 102 #[.string l] w fun e w' => e = .returned (.bool (evB l)) ∧ w = w' := by
  by_cases h : l.size = 1
  · obtain ⟨c, rfl⟩ := chN_of h
    have HC : Hid (Calls Try.prog 119 #[.string ⟨#[97, 99, 101, 102, 108, 111, 114]⟩, .string (chN c)] w fun e w' => e = .returned (.bool (evB (chN c))) ∧ w = w') := by
      refine (Try.strings_Contains_one ⟨#[97, 99, 101, 102, 108, 111, 114]⟩ c w).mono fun e w' ⟨h1, h2⟩ => ⟨?_, h2.symm⟩
      rw [h1, evB_chN]
      rfl
    have hsz : ((chN c).size : Int) = 1 := rfl
    generalize chN c = l at *
    have hsb : ((l.size : Int) == 1) = true := by simp [hsz]
    clear hsz h
    go_enter Try.func102, Try.ntmps102
    go_wp2_with fail
    refine HC.out.mono ?_
    rintro e w' ⟨rfl, rfl⟩
    go_wp2_with fail
    go_ret
    exact ⟨rfl, rfl⟩
  · have HE := Lib.hid (evB_long h)
    have hsb : ((l.size : Int) == 1) = false := by simp; omega
    clear h
    go_enter Try.func102, Try.ntmps102
    go_wp2_with fail
    go_ret
    exact ⟨by rw [HE.out]; rfl, rfl⟩
/-- the minute before a note -/
def prM (ns : List (Int × ByteArray)) (i : Nat) : Int := if i = 0 then 0 else nM ns (i - 1)
theorem prM_succ (ns : List (Int × ByteArray)) (i : Nat) : prM ns (i + 1) = nM ns i := by unfold prM; rw [if_neg (by omega)]; rfl
def okN (ns : List (Int × ByteArray)) (i : Nat) : Bool := inB (nM ns i) (prM ns i) 2000 && evB (nL ns i)
/-- a list of notes is a register -/
def rgV (ns : List (Int × ByteArray)) : Bool := decide (ns.length ≤ 30) && allB ns.length (okN ns)
theorem rgV_true {ns : List (Int × ByteArray)} : rgV ns = true ↔ ns.length ≤ 30 ∧ ∀ i, i < ns.length → okN ns i = true := by
  unfold rgV
  rw [Bool.and_eq_true, decide_eq_true_eq, allB_true]
theorem okN_true {ns : List (Int × ByteArray)} {i : Nat} : okN ns i = true ↔ (prM ns i ≤ nM ns i ∧ nM ns i ≤ 2000) ∧ evB (nL ns i) = true := by
  unfold okN
  rw [Bool.and_eq_true, inB_true]
theorem rgV_not {ns : List (Int × ByteArray)} {i : Nat} (hi : i < ns.length) (h : okN ns i = false) : rgV ns = false := by
  unfold rgV
  rw [allB_not hi h, Bool.and_false]
theorem rgV_long {ns : List (Int × ByteArray)} (h : ¬ ns.length ≤ 30) : rgV ns = false := by
  unfold rgV
  rw [decide_eq_false h, Bool.false_and]
set_option linter.unusedSimpArgs false in
set_option maxHeartbeats 2000000 in
theorem valid_any (r : Nat) (es : List Nat) (ns : List (Int × ByteArray)) (w : World) (h : RgC w r es ns) (hn : ns.length ≤ 1000000) :
    Calls Try.prog 84 #[.pointer (some ⟨r, 0, none⟩)] w fun e w' => e = .returned (.bool (rgV ns)) ∧ w = w' := by
  have hrc := h.box.cell
  have HR := Lib.hid h
  have HL := Lib.hid h.len
  have hl : es.length ≤ 1000000 := by rw [HL.out]; exact hn
  clear h
  by_cases h30 : (30 : Int) < (es.length : Int)
  · have HV : Hid (rgV ns = false) := rgV_long (by rw [← HL.out]; omega)
    go_enter Try.func84, Try.ntmps84
    go_wp2_with fail
    go_ret
    exact ⟨by rw [HV.out]; rfl, rfl⟩
  go_enter Try.func84, Try.ntmps84
  go_wp2_with fail
  go_loop [3, 4] (fun a e => ∃ i : Nat, i ≤ es.length ∧ e = pE es i ∧ a = .int .i64 (prM ns i) ∧ Hid (∀ j, j < i → okN ns j = true)) (fun _ e => es.length - ixE es e)
  case atStart => exact ⟨0, Nat.zero_le _, rfl, rfl, fun j hj => by omega⟩
  case round =>
    obtain ⟨i, hi, he, rfl, HA⟩ := hrel
    have HIX := Lib.hid (HR.out.ix hi)
    by_cases hlt : i < es.length
    · have HE := Lib.hid he
      rw [pE_some hlt] at he
      subst he
      have hec := (HR.out.ent i hlt).cell
      generalize es.getD i 0 = eb at *
      have HIN : Hid (i < ns.length) := by show _ < _; rw [← HL.out]; exact hlt
      have HPS := Lib.hid (prM_succ ns i)
      have HNX := Lib.hid (HR.out.ix (i := i + 1) (by omega))
      have HOK := Lib.hid (okN_true (ns := ns) (i := i))
      revert hec HPS HOK
      generalize nM ns i = m
      generalize nL ns i = l
      intro hec HPS HOK
      by_cases h1 : m < prM ns i
      · have HF : Hid (rgV ns = false) := rgV_not HIN.out (by cases e : okN ns i; rfl; exact absurd (HOK.out.1 e).1.1 (by omega))
        go_wp2_with fail
        go_ret
        exact ⟨by rw [HF.out]; rfl, rfl⟩
      by_cases h2 : 2000 < m
      · have HF : Hid (rgV ns = false) := rgV_not HIN.out (by cases e : okN ns i; rfl; exact absurd (HOK.out.1 e).1.2 (by omega))
        go_wp2_with fail
        go_ret
        exact ⟨by rw [HF.out]; rfl, rfl⟩
      cases hev : evB l
      · have HF : Hid (rgV ns = false) := rgV_not HIN.out (by cases e : okN ns i; rfl; have h := (HOK.out.1 e).2; rw [hev] at h; cases h)
        have HEV := Lib.hid hev
        clear hev
        go_wp2_with fail
        refine (isEvent_any l _).mono ?_
        rintro e w' ⟨rfl, rfl⟩
        rw [HEV.out]
        go_wp2_with fail
        go_ret
        exact ⟨by rw [HF.out]; rfl, rfl⟩
      · have HOKI : Hid (okN ns i = true) := HOK.out.2 ⟨⟨by omega, by omega⟩, hev⟩
        have HEV := Lib.hid hev
        clear hev
        go_wp2_with fail
        refine (isEvent_any l _).mono ?_
        rintro e w' ⟨rfl, rfl⟩
        rw [HEV.out]
        go_wp2_with fail
        go_round
        case rel => exact ⟨i + 1, by omega, rfl, by rw [HPS.out], fun j hj => by
          rcases Nat.lt_or_ge j i with h | h
          · exact HA.out j h
          · obtain rfl : j = i := by omega
            exact HOKI.out⟩
        case measure => rw [HE.out, HIX.out, HNX.out]; omega
    · rw [pE_none (by omega)] at he
      subst he
      have HV : Hid (rgV ns = true) := rgV_true.2 ⟨by rw [← HL.out]; omega, fun j hj => HA.out j (by rw [← HL.out] at hj; omega)⟩
      go_wp2_with fail
      go_ret
      exact ⟨by rw [HV.out]; rfl, rfl⟩
/-- all letters -/
def rgT (ns : List (Int × ByteArray)) : List UInt8 := ns.flatMap fun z => z.2.data.toList
theorem rgT_snoc {ns : List (Int × ByteArray)} {z : Int × ByteArray} : rgT (ns ++ [z]) = rgT ns ++ z.2.data.toList := by
  unfold rgT
  simp
theorem rgT_len : ∀ ns : List (Int × ByteArray), (∀ z, z ∈ ns → z.2.size ≤ 1000) → (rgT ns).length ≤ ns.length * 1000
  | [], _ => by simp [rgT]
  | z :: ns, h => by
    have ih := rgT_len ns (fun y hy => h y (List.mem_cons_of_mem _ hy))
    have hz := h z (List.mem_cons_self ..)
    have hs : z.2.data.toList.length ≤ 1000 := by simpa using hz
    have e : rgT (z :: ns) = z.2.data.toList ++ rgT ns := rfl
    rw [e, List.length_append, List.length_cons, Nat.succ_mul]
    omega
theorem rgV_sz {ns : List (Int × ByteArray)} (h : rgV ns = true) : ∀ z, z ∈ ns → z.2.size = 1 := fun z hz => by
  obtain ⟨i, hi, e⟩ := List.getElem_of_mem hz
  have h2 := (okN_true.1 ((rgV_true.1 h).2 i hi)).2
  rw [nL_at hi, e] at h2
  exact evB_size h2
structure TxM (w wr : World) (l : List UInt8) : Prop where
  sb : Sb w.heap.size w.heap.size (Lib.byteCells l) wr
  bl : Below w.heap.size w wr
theorem Sb.keepN {B b : Nat} {bs : List Value} {w w' : World} (h : Sb B b bs w) (hb : Below w.heap.size w w') : Sb B b bs w' := by
  have key : ∀ p, Lib.BuilderAt 134 5 B b p bs w → Lib.BuilderAt 134 5 B b p bs w' := fun p hp => by
    have hl := hp.lt
    obtain ⟨h1, v, h2, h3, h4⟩ := hp
    refine ⟨h1, v, (hb.block b hl).trans h2, h3.kept (grownBy_below hb none) ?_, h4⟩
    cases v.ownBlock with
    | none => exact .inl rfl
    | some q => exact .inr (by simp)
  rcases h with h | h
  · exact .inl (key _ h)
  · exact .inr (key _ h)
set_option maxRecDepth 100000 in
set_option maxHeartbeats 2000000 in
theorem writeString_any (B b : Nat) (bs : List Value) (s : ByteArray) (w : World) (h : Sb B b bs w) (hlen : bs.length + s.size ≤ 140737488355328) (hBw : B ≤ w.heap.size) :
    Calls Try.prog 100 #[.pointer (some ⟨b, 0, none⟩), .string s] w fun e w' => e = .returned (.tuple #[.int .i64 s.size, .nilIface]) ∧ SbU B b (bs ++ Lib.strCells s) w' ∧ Below B w w' := by
  have HH := Lib.hid h
  clear h
  obtain ⟨i0, hi, hz0, hz1, hz2⟩ := info_parts (P := Try.prog) (e := 5) (z := .int .u8 0) (size := 1) (bytes := 1) (by kernel_rfl)
  have HI := Lib.hid hi
  clear hi
  go_enter Try.func100, Try.ntmps100
  go_wp2_with (go_at_call 118; go_must (refine (copyCheck_any B b bs _ HH.out).mono ?_))
  rintro e w1 ⟨rfl, h1, hb1⟩
  obtain ⟨hB, v, hbk, hown, hne⟩ := h1
  have c0 : w1.cell? ⟨b, 0, none⟩ = some (.pointer (some ⟨b, 0, none⟩)) := by rw [Lib.cell_of_heap hbk]; rfl
  have c1 : w1.cell? ⟨b, 1, none⟩ = some v := by rw [Lib.cell_of_heap hbk]; rfl
  have HBK := Lib.hid hbk
  clear hbk
  go_wp2_with (at_builtin; refine Lib.wpList_append_own_string _ rfl _ _ 22 9 rfl B 5 i0 Try.underlying22 Try.underlying9 HI.out hz0 hz1 hz2 _ _ _ rfl hown s rfl ?c3 ?c4 ?c5 ?_)
  case c3 => unfold maxLen; omega
  case c4 => omega
  case c5 => have := hb1.size; omega
  intro v' w2 hown' hgrow _
  have hbk := HBK.out
  have hlt : b < w1.heap.size := by
    rcases Nat.lt_or_ge b w1.heap.size with h' | h'
    · exact h'
    · simp [Array.getElem?_eq_none h'] at hbk
  have hb2 : w2.heap[b]? = some (.cells #[.pointer (some ⟨b, 0, none⟩), v] 134 (0, 0)) := by
    rw [hgrow.block b hlt (fun e => hne e.symm)]
    exact hbk
  have d0 : w2.cell? ⟨b, 0, none⟩ = some (.pointer (some ⟨b, 0, none⟩)) := by rw [Lib.cell_of_heap hb2]; rfl
  have d1 : w2.cell? ⟨b, 1, none⟩ = some v := by rw [Lib.cell_of_heap hb2]; rfl
  have f1 : w2.frozen? ⟨b, 1, none⟩ = false := Lib.frozen_of_heap hb2 1
  obtain ⟨ao, n', cap, rfl⟩ : ∃ ao n' cap, v' = .slice ao n' cap := by
    rcases hown'.2 with ⟨hv, _⟩ | ⟨g, cap, cur, hv, _⟩
    · exact ⟨_, _, _, hv⟩
    · exact ⟨_, _, _, hv⟩
  have HB2 := Lib.hid hb2
  clear hb2 hbk
  go_wp2_with fail
  go_ret2
  refine ⟨rfl, ?_, ?_⟩
  · exact Lib.BuilderAt.put (T := 134) (e := 5) hB HB2.out (bs' := bs ++ Lib.strCells s) (by simpa [Lib.strCells_length] using hown') (by decide)
  · exact (hb1.grown hgrow (by have := hb1.size; omega) (fun k hk => (hown.lt k hk).1)).setCell (p := ⟨b, 1, none⟩) hB _
set_option linter.unusedSimpArgs false in
set_option maxRecDepth 100000 in
set_option maxHeartbeats 2000000 in
theorem text_any (r : Nat) (es : List Nat) (ns : List (Int × ByteArray)) (w : World) (h : RgC w r es ns) (hn : ns.length ≤ 1000) (hz : ∀ z, z ∈ ns → z.2.size ≤ 1000) :
    Calls Try.prog 79 #[.pointer (some ⟨r, 0, none⟩)] w fun e w' => e = .returned (.string ⟨(rgT ns).toArray⟩) ∧ Below w.heap.size w w' := by
  have hrc := h.box.cell
  have hrl := h.box.lt
  have HR0 := Lib.hid h
  have HL := Lib.hid h.len
  have HZ := Lib.hid hz
  have hl : es.length ≤ 1000 := by rw [HL.out]; exact hn
  have HM0 : Hid (TxM w (w.alloc (.cells #[.pointer none, .slice none 0 0] 134)) []) := ⟨Or.inl ⟨Nat.le_refl _, .slice none 0 0, Bx.new _ _ _, ⟨rfl, Or.inl ⟨rfl, rfl⟩⟩, by simp [Value.ownBlock]⟩, below_all _ _⟩
  clear h hz
  go_enter Try.func79, Try.ntmps79
  go_wp2_with fail
  clear hrc
  go_loopw [4] (fun e wr => ∃ i : Nat, i ≤ es.length ∧ e = pE es i ∧ Hid (TxM w wr (rgT (ns.take i)))) (fun e _ => es.length - ixE es e)
  case atStart => exact ⟨0, Nat.zero_le _, rfl, HM0⟩
  case round =>
    obtain ⟨i, hi, he, HM⟩ := hrel
    have HR := Lib.hid (HR0.out.below HM.out.bl (Nat.le_refl _))
    have HIX := Lib.hid (HR.out.ix hi)
    by_cases hlt : i < es.length
    · have HEB : Hid (∀ W, Below w.heap.size w W → Bx W (es.getD i 0) 100 #[.int .i64 (nM ns i), .string (nL ns i), pE es (i + 1)]) := fun W hW => (HR0.out.below hW (Nat.le_refl _)).ent i hlt
      have HE := Lib.hid he
      rw [pE_some hlt] at he
      subst he
      have hec := (HR.out.ent i hlt).cell
      generalize es.getD i 0 = eb at *
      have HIN : Hid (i < ns.length) := by show _ < _; rw [← HL.out]; exact hlt
      have HNX := Lib.hid (HR.out.ix (i := i + 1) (by omega))
      have HTK : Hid (ns.take (i + 1) = ns.take i ++ [ns[i]'HIN.out]) := List.take_succ_eq_append_getElem HIN.out
      have HLE : Hid (nL ns i = (ns[i]'HIN.out).2) := nL_at HIN.out
      have HT : Hid (rgT (ns.take (i + 1)) = rgT (ns.take i) ++ (nL ns i).data.toList) := by show _ = _; rw [HTK.out, rgT_snoc, HLE.out]
      have HZI : Hid ((nL ns i).size ≤ 1000) := by show _ ≤ _; rw [HLE.out]; exact HZ.out _ (List.getElem_mem _)
      have HTL : Hid ((rgT (ns.take i)).length ≤ 1000 * 1000) := by
        have h := rgT_len (ns.take i) (fun z hz => HZ.out z (List.mem_of_mem_take hz))
        have h2 : (ns.take i).length ≤ 1000 := by simp; omega
        exact Nat.le_trans h (Nat.mul_le_mul_right _ h2)
      clear HTK HLE
      generalize nL ns i = l at *
      go_wp2_with fail
      refine (writeString_any w.heap.size w.heap.size _ l _ HM.out.sb (by have h1 := HZI.out; have h2 := HTL.out; simp only [Lib.byteCells_length]; omega) HM.out.bl.size).mono ?_
      rintro e w2 ⟨rfl, h2, hb2⟩
      have HM2 : Hid (TxM w w2 (rgT (ns.take (i + 1)))) := ⟨by rw [HT.out, Lib.byteCells_append]; exact .inr h2, HM.out.bl.trans hb2⟩
      clear h2 hb2 hec
      have hec := (HEB.out _ HM2.out.bl).cell
      go_wp2_with fail
      go_roundw
      case rel => exact ⟨i + 1, by omega, rfl, HM2⟩
      case measure => rw [HE.out, HIX.out, HNX.out]; omega
    · rw [pE_none (by omega)] at he
      subst he
      have HS : Hid (Sb w.heap.size w.heap.size (Lib.byteCells (rgT ns)) wr) := by have h := HM.out.sb; rwa [List.take_of_length_le (by rw [← HL.out]; omega)] at h
      go_wp2_with fail
      refine (string_any w.heap.size _ _ _ HS.out HM.out.bl.size).mono ?_
      rintro e w3 ⟨rfl, hb⟩
      have HB3 := Lib.hid (HM.out.bl.trans hb)
      clear hb
      go_wp2_with fail
      go_ret
      exact ⟨rfl, HB3.out⟩
end Go.Proofs.Ytokddeoliieofaa
