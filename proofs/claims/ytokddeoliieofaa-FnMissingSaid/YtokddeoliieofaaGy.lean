/-
  Registers that agree; fits and offset of the program.
  A register without a note: without, RegisterSlack of the program.
  RegisterMissing of the program.
  l5Agree, RegisterOffset, RegisterMissing of the reference.
  RegisterOffset, RegisterMissing of the reference.
  l92Both, DrawRegisterMissing.
  DrawRegisterMissing, hasInt; what the answers of RegisterMissing are.
-/
import Derived.Test.YtokddeoliieofaaFf
namespace Go.Proofs.Ytokddeoliieofaa
open Go.RowKit

def difB (a b : List (Int × ByteArray)) (o s : Int) (i : Nat) : Bool := inB (nM b i - nM a i - o) (-s) s
/-- two registers agree with an offset and a slack -/
def agB (a b : List (Int × ByteArray)) (o s : Int) : Bool := ((txN a).toList == (txN b).toList) && allB a.length (difB a b o s)
/-- some offset below a number agrees -/
def ofK (a b : List (Int × ByteArray)) (s : Int) (k : Nat) : Bool := (List.range k).any fun j => agB a b ((j : Int) - 30) s
def ofB (a b : List (Int × ByteArray)) (s : Int) : Bool := inB s 0 5 && ofK a b s 61
theorem ofK_no {a b : List (Int × ByteArray)} {s : Int} {k : Nat} : ofK a b s k = false ↔ ∀ j : Nat, j < k → agB a b ((j : Int) - 30) s = false := by
  unfold ofK
  rw [List.any_eq_false]
  constructor
  · intro h j hj
    have := h j (List.mem_range.2 hj)
    simpa using this
  · intro h j hj
    have := h j (List.mem_range.1 hj)
    simp [this]
theorem ofK_yes {a b : List (Int × ByteArray)} {s : Int} {k j : Nat} (hj : j < k) (h : agB a b ((j : Int) - 30) s = true) : ofK a b s k = true :=
  List.any_eq_true.2 ⟨j, List.mem_range.2 hj, h⟩
theorem ag_len {a b : List (Int × ByteArray)} (ha : rgV a = true) (hb : rgV b = true) (h : ((txN a).toList == (txN b).toList) = true) : a.length = b.length := by
  rw [ByteArray.toList_eq, ByteArray.toList_eq, txN_list, txN_list] at h
  have e : rgT a = rgT b := by simpa using h
  have := congrArg List.length e
  rwa [rgT_size ha, rgT_size hb] at this
/-- a register among old memory -/
structure RoC (w : World) (r : Nat) (es : List Nat) (ns : List (Int × ByteArray)) : Prop where
  rg : RgC w r es ns
  ok : rgV ns = true
theorem RoC.below {w w' : World} {r : Nat} {es : List Nat} {ns : List (Int × ByteArray)} (h : RoC w r es ns) (hb : Below w.heap.size w w') : RoC w' r es ns := ⟨h.rg.below hb (Nat.le_refl _), h.ok⟩
set_option linter.unusedSimpArgs false in
set_option maxRecDepth 100000 in
set_option maxHeartbeats 4000000 in
theorem fits_any (r r2 : Nat) (es fs : List Nat) (a b : List (Int × ByteArray)) (o s : Int) (w : World) (ha : RoC w r es a) (hb : RoC w r2 fs b) (ho : -30 ≤ o ∧ o ≤ 30) (hs : 0 ≤ s ∧ s ≤ 5) :
    Calls Try.prog 95 #[.pointer (some ⟨r, 0, none⟩), .pointer (some ⟨r2, 0, none⟩), .int .i64 o, .int .i64 s] w fun e w' => e = .returned (.bool (agB a b o s)) ∧ Below w.heap.size w w' := by
  have HA := Lib.hid ha
  have HB := Lib.hid hb
  have hla := (rgV_true.1 ha.ok).1
  have hlb := (rgV_true.1 hb.ok).1
  have HTA := Lib.hid (text_any r es a w ha.rg (by omega) (fun z hz => by rw [rgV_sz ha.ok z hz]; omega))
  have HTB : Hid (∀ W, Below w.heap.size w W → Calls Try.prog 79 #[.pointer (some ⟨r2, 0, none⟩)] W fun e w' => e = .returned (.string ⟨(rgT b).toArray⟩) ∧ Below W.heap.size W w') := fun W h => text_any r2 fs b W (HB.out.below h).rg (by omega) (fun z hz => by rw [rgV_sz HB.out.ok z hz]; omega)
  clear ha hb
  go_enter Try.func95, Try.ntmps95
  go_wp2_with fail
  refine HTA.out.mono ?_
  rintro e w1 ⟨rfl, hb1⟩
  have HB1 := Lib.hid hb1
  clear hb1
  rw [show (⟨(rgT a).toArray⟩ : ByteArray) = txN a from rfl]
  go_wp2_with fail
  refine (HTB.out _ HB1.out).mono ?_
  rintro e w2 ⟨rfl, hb2⟩
  have HB2 := Lib.hid (HB1.out.trans (hb2.mono HB1.out.size))
  clear hb2 HB1 HTA HTB
  rw [show (⟨(rgT b).toArray⟩ : ByteArray) = txN b from rfl]
  cases heq : ((txN a).toList == (txN b).toList)
  · have HV : Hid (agB a b o s = false) := by show _ = _; unfold agB; rw [heq]; rfl
    generalize txN a = ta at *
    generalize txN b = tb at *
    go_wp2_with fail
    go_ret
    exact ⟨by rw [HV.out]; rfl, HB2.out⟩
  have HV : Hid (agB a b o s = allB a.length (difB a b o s)) := by show _ = _; unfold agB; rw [heq]; rfl
  have HLE := Lib.hid (ag_len HA.out.ok HB.out.ok heq)
  have HLA := Lib.hid HA.out.rg.len
  have HLB := Lib.hid HB.out.rg.len
  generalize txN a = ta at *
  generalize txN b = tb at *
  have hac := (HA.out.below HB2.out).rg.box.cell 0
  have hbc := (HB.out.below HB2.out).rg.box.cell 0
  simp only [List.getElem?_toArray, List.getElem?_cons_zero] at hac hbc
  have hela : es.length ≤ 30 := by rw [HLA.out]; exact hla
  go_wp2_with fail
  clear hac hbc heq
  go_loopw [9, 10, 11] (fun pb pa _ wr => ∃ i : Nat, i ≤ es.length ∧ pa = pE es i ∧ pb = pE fs i ∧ Hid (∀ j, j < i → difB a b o s j = true) ∧ Hid (Below w.heap.size w wr)) (fun _ pa _ _ => es.length - ixE es pa)
  case atStart => exact ⟨0, Nat.zero_le _, rfl, rfl, fun j hj => by omega, HB2⟩
  case round =>
    obtain ⟨i, hi, hpa, hpb, HJ, HI⟩ := hrel
    have HIX := Lib.hid ((HA.out.below HI.out).rg.ix hi)
    by_cases hlt : i < es.length
    · have hltb : i < fs.length := by have h1 := HLA.out; have h2 := HLB.out; have h3 := HLE.out; omega
      have HE := Lib.hid hpa
      rw [pE_some hlt] at hpa
      rw [pE_some hltb] at hpb
      subst hpa
      subst hpb
      have HCA : Hid (∀ W, Below w.heap.size w W → ∀ q, W.cell? ⟨es.getD i 0, q, none⟩ = #[Value.int .i64 (nM a i), .string (nL a i), pE es (i + 1)][q]?) := fun W h => ((HA.out.below h).rg.ent i hlt).cell
      have HCB : Hid (∀ W, Below w.heap.size w W → ∀ q, W.cell? ⟨fs.getD i 0, q, none⟩ = #[Value.int .i64 (nM b i), .string (nL b i), pE fs (i + 1)][q]?) := fun W h => ((HB.out.below h).rg.ent i hltb).cell
      have HNX := Lib.hid ((HA.out.below HI.out).rg.ix (i := i + 1) (by omega))
      have hma := nM_bd HA.out.ok i (by rw [← HLA.out]; exact hlt)
      have hmb := nM_bd HB.out.ok i (by rw [← HLB.out]; exact hltb)
      have HD : Hid (difB a b o s i = inB (nM b i - nM a i - o) (-s) s) := rfl
      generalize nM a i = ma at *
      generalize nM b i = mb at *
      generalize nL a i = la at *
      generalize nL b i = lb at *
      generalize es.getD i 0 = ea at *
      generalize fs.getD i 0 = eb at *
      have hw1 : IntKind.i64.wrap (mb - ma) = mb - ma := IntWalk.i64_in _ (by omega)
      have hw2 : IntKind.i64.wrap (mb - ma - o) = mb - ma - o := IntWalk.i64_in _ (by omega)
      have hw3 : IntKind.i64.wrap (-s) = -s := IntWalk.i64_in _ (by omega)
      have HAB : Hid (∀ W, Below w.heap.size w W → W.cell? ⟨ea, 0, none⟩ = some (.int .i64 ma) ∧ W.cell? ⟨eb, 0, none⟩ = some (.int .i64 mb)) := fun W h => ⟨HCA.out W h 0, HCB.out W h 0⟩
      go_wp2_with fail
      refine wp_region_held_drew (S := (fun W => W.cell? ⟨ea, 0, none⟩ = some (.int .i64 ma) ∧ W.cell? ⟨eb, 0, none⟩ = some (.int .i64 mb))) (by kernel_rfl) (HAB.out _ HI.out.drew) (fun hHeld => ?_)
      refine wpAnyH_take (i := 0) (oi := ?_) (v := ?_) ?_ (by kernel_rfl) (by kernel_rfl) (by kernel_rfl) ?_ ?_ (by assumption) ?_
      rotate_left 2
      · simp only [List.getElem?_toArray, List.getElem?_cons_succ, List.getElem?_cons_zero]; rfl
      · exact fun _ _ _ h => h
      · first
          | (refine Or.inr ⟨?_, ?_⟩ <;> rfl)
          | (refine Or.inl ⟨?_, ?_⟩; · rfl
             intro w hSw; (try dsimp only at hSw); go_simp; (try with_reducible rfl); done)
      try simp only [Act.put, List.setIfInBounds_toArray, List.set_cons_zero, List.set_cons_succ]
      refine wpAnyH_take (i := 1) (oi := ?_) (v := ?_) ?_ (by kernel_rfl) (by kernel_rfl) (by kernel_rfl) ?_ ?_ (by assumption) ?_
      rotate_left 2
      · simp only [List.getElem?_toArray, List.getElem?_cons_succ, List.getElem?_cons_zero]; rfl
      · exact fun _ _ _ h => h
      · first
          | (refine Or.inr ⟨?_, ?_⟩ <;> rfl)
          | (refine Or.inl ⟨?_, ?_⟩; · rfl
             intro w hSw; (try dsimp only at hSw); go_simp; (try with_reducible rfl); done)
      try simp only [Act.put, List.setIfInBounds_toArray, List.set_cons_zero, List.set_cons_succ]
      refine wpAnyH_take (i := 2) (oi := ?_) (v := ?_) ?_ (by kernel_rfl) (by kernel_rfl) (by kernel_rfl) ?_ ?_ (by assumption) ?_
      rotate_left 2
      · simp only [List.getElem?_toArray, List.getElem?_cons_succ, List.getElem?_cons_zero]; rfl
      · exact fun _ _ _ h => h
      · first
          | (refine Or.inr ⟨?_, ?_⟩ <;> rfl)
          | (refine Or.inl ⟨?_, ?_⟩; · rfl
             intro w hSw; (try dsimp only at hSw); go_simp; (try with_reducible rfl); done)
      try simp only [Act.put, List.setIfInBounds_toArray, List.set_cons_zero, List.set_cons_succ]
      refine wpAnyH_take (i := 3) (oi := ?_) (v := ?_) ?_ (by kernel_rfl) (by kernel_rfl) (by kernel_rfl) ?_ ?_ (by assumption) ?_
      rotate_left 2
      · simp only [List.getElem?_toArray, List.getElem?_cons_succ, List.getElem?_cons_zero]; rfl
      · exact fun _ _ _ h => h
      · first
          | (refine Or.inr ⟨?_, ?_⟩ <;> rfl)
          | (refine Or.inl ⟨?_, ?_⟩; · rfl
             intro w hSw; (try dsimp only at hSw); go_simp; (try with_reducible rfl); done)
      try simp only [Act.put, List.setIfInBounds_toArray, List.set_cons_zero, List.set_cons_succ]
      refine wpAnyH_take (i := 4) (oi := ?_) (v := ?_) ?_ (by kernel_rfl) (by kernel_rfl) (by kernel_rfl) ?_ ?_ (by assumption) ?_
      rotate_left 2
      · simp only [List.getElem?_toArray, List.getElem?_cons_succ, List.getElem?_cons_zero]; rfl
      · exact fun _ _ _ h => h
      · first
          | (refine Or.inr ⟨?_, ?_⟩ <;> rfl)
          | (refine Or.inl ⟨?_, ?_⟩; · rfl
             intro w hSw; (try dsimp only at hSw); go_simp; (try with_reducible rfl); done)
      try simp only [Act.put, List.setIfInBounds_toArray, List.set_cons_zero, List.set_cons_succ]
      refine wpAnyH_take (i := 5) (oi := ?_) (v := ?_) ?_ (by kernel_rfl) (by kernel_rfl) (by kernel_rfl) ?_ ?_ (by assumption) ?_
      rotate_left 2
      · simp only [List.getElem?_toArray, List.getElem?_cons_succ, List.getElem?_cons_zero]; rfl
      · exact fun _ _ _ h => h
      · first
          | (refine Or.inr ⟨?_, ?_⟩ <;> rfl)
          | (refine Or.inl ⟨?_, ?_⟩; · rfl
             intro w hSw; (try dsimp only at hSw); go_simp; (try with_reducible rfl); done)
      try simp only [Act.put, List.setIfInBounds_toArray, List.set_cons_zero, List.set_cons_succ]
      refine wpAnyH_take (i := 6) (oi := ?_) (v := ?_) ?_ (by kernel_rfl) (by kernel_rfl) (by kernel_rfl) ?_ ?_ (by assumption) ?_
      rotate_left 2
      · simp only [List.getElem?_toArray, List.getElem?_cons_succ, List.getElem?_cons_zero]; rfl
      · exact fun _ _ _ h => h
      · first
          | (refine Or.inr ⟨?_, ?_⟩ <;> rfl)
          | (refine Or.inl ⟨?_, ?_⟩; · rfl
             intro w hSw; (try dsimp only at hSw); go_simp; (try with_reducible rfl); done)
      try simp only [Act.put, List.setIfInBounds_toArray, List.set_cons_zero, List.set_cons_succ]
      refine wpAnyH_take (i := 7) (oi := ?_) (v := ?_) ?_ (by kernel_rfl) (by kernel_rfl) (by kernel_rfl) ?_ ?_ (by assumption) ?_
      rotate_left 2
      · simp only [List.getElem?_toArray, List.getElem?_cons_succ, List.getElem?_cons_zero]; rfl
      · exact fun _ _ _ h => h
      · first
          | (refine Or.inr ⟨?_, ?_⟩ <;> rfl)
          | (refine Or.inl ⟨?_, ?_⟩; · rfl
             intro w hSw; (try dsimp only at hSw); go_simp; (try with_reducible rfl); done)
      try simp only [Act.put, List.setIfInBounds_toArray, List.set_cons_zero, List.set_cons_succ]
      refine wpAnyH_take (i := 8) (oi := ?_) (v := ?_) ?_ (by kernel_rfl) (by kernel_rfl) (by kernel_rfl) ?_ ?_ (by assumption) ?_
      rotate_left 2
      · simp only [List.getElem?_toArray, List.getElem?_cons_succ, List.getElem?_cons_zero]; rfl
      · exact fun _ _ _ h => h
      · first
          | (refine Or.inr ⟨?_, ?_⟩ <;> rfl)
          | (refine Or.inl ⟨?_, ?_⟩; · rfl
             intro w hSw; (try dsimp only at hSw); go_simp; (try with_reducible rfl); done)
      try simp only [Act.put, List.setIfInBounds_toArray, List.set_cons_zero, List.set_cons_succ]
      refine wpAnyH_take (i := 9) (oi := ?_) (v := ?_) ?_ (by kernel_rfl) (by kernel_rfl) (by kernel_rfl) ?_ ?_ (by assumption) ?_
      rotate_left 2
      · simp only [List.getElem?_toArray, List.getElem?_cons_succ, List.getElem?_cons_zero]; rfl
      · exact fun _ _ _ h => h
      · first
          | (refine Or.inr ⟨?_, ?_⟩ <;> rfl)
          | (refine Or.inl ⟨?_, ?_⟩; · rfl
             intro w hSw; (try dsimp only at hSw); go_simp; (try with_reducible rfl); done)
      try simp only [Act.put, List.setIfInBounds_toArray, List.set_cons_zero, List.set_cons_succ]
      refine wpAnyH_take (i := 10) (oi := ?_) (v := ?_) ?_ (by kernel_rfl) (by kernel_rfl) (by kernel_rfl) ?_ ?_ (by assumption) ?_
      rotate_left 2
      · simp only [List.getElem?_toArray, List.getElem?_cons_succ, List.getElem?_cons_zero]; rfl
      · exact fun _ _ _ h => h
      · first
          | (refine Or.inr ⟨?_, ?_⟩ <;> rfl)
          | (refine Or.inl ⟨?_, ?_⟩; · rfl
             intro w hSw; (try dsimp only at hSw); go_simp; (try with_reducible rfl); done)
      try simp only [Act.put, List.setIfInBounds_toArray, List.set_cons_zero, List.set_cons_succ]
      refine wpAnyH_take (i := 11) (oi := ?_) (v := ?_) ?_ (by kernel_rfl) (by kernel_rfl) (by kernel_rfl) ?_ ?_ (by assumption) ?_
      rotate_left 2
      · simp only [List.getElem?_toArray, List.getElem?_cons_succ, List.getElem?_cons_zero]; rfl
      · exact fun _ _ _ h => h
      · first
          | (refine Or.inr ⟨?_, ?_⟩ <;> rfl)
          | (refine Or.inl ⟨?_, ?_⟩; · rfl
             intro w hSw; (try dsimp only at hSw); go_simp; (try with_reducible rfl); done)
      try simp only [Act.put, List.setIfInBounds_toArray, List.set_cons_zero, List.set_cons_succ]
      refine wpAnyH_take (i := 12) (oi := ?_) (v := ?_) ?_ (by kernel_rfl) (by kernel_rfl) (by kernel_rfl) ?_ ?_ (by assumption) ?_
      rotate_left 2
      · simp only [List.getElem?_toArray, List.getElem?_cons_succ, List.getElem?_cons_zero]; rfl
      · exact fun _ _ _ h => h
      · first
          | (refine Or.inr ⟨?_, ?_⟩ <;> rfl)
          | (refine Or.inl ⟨?_, ?_⟩; · rfl
             intro w hSw; (try dsimp only at hSw); go_simp; (try with_reducible rfl); done)
      try simp only [Act.put, List.setIfInBounds_toArray, List.set_cons_zero, List.set_cons_succ]
      refine wpAnyH_take (i := 13) (oi := ?_) (v := ?_) ?_ (by kernel_rfl) (by kernel_rfl) (by kernel_rfl) ?_ ?_ (by assumption) ?_
      rotate_left 2
      · simp only [List.getElem?_toArray, List.getElem?_cons_succ, List.getElem?_cons_zero]; rfl
      · exact fun _ _ _ h => h
      · first
          | (refine Or.inr ⟨?_, ?_⟩ <;> rfl)
          | (refine Or.inl ⟨?_, ?_⟩; · rfl
             intro w hSw; (try dsimp only at hSw); go_simp; (try with_reducible rfl); done)
      try simp only [Act.put, List.setIfInBounds_toArray, List.set_cons_zero, List.set_cons_succ]
      refine wpAnyH_done (by kernel_rfl) ?_ _
      clear hHeld
      replace HI := Lib.hid HI.out.drew
      generalize wr.drew = wr at *
      by_cases hx1 : s < mb - ma - o
      · have HV2 : Hid (agB a b o s = false) := by
          show _ = _
          rw [HV.out]
          exact allB_not (k := i) (by rw [← HLA.out]; exact hlt) (by rw [HD.out]; exact inB_false.2 (by omega))
        go_wp2_with fail
        go_ret
        exact ⟨by rw [HV2.out]; rfl, HI.out⟩
      · by_cases hx2 : mb - ma - o < -s
        · have HV2 : Hid (agB a b o s = false) := by
            show _ = _
            rw [HV.out]
            exact allB_not (k := i) (by rw [← HLA.out]; exact hlt) (by rw [HD.out]; exact inB_false.2 (by omega))
          go_wp2_with fail
          go_ret
          exact ⟨by rw [HV2.out]; rfl, HI.out⟩
        · have HJ2 : Hid (∀ j, j < i + 1 → difB a b o s j = true) := fun j hj => by
            rcases Nat.lt_or_ge j i with q | q
            · exact HJ.out j q
            · obtain rfl : j = i := by omega
              rw [HD.out]
              exact inB_true.2 (by omega)
          have hca := HCA.out _ HI.out
          have hcb := HCB.out _ HI.out
          go_wp2_with fail
          go_roundw
          case rel => exact ⟨i + 1, by omega, rfl, rfl, HJ2.out, HI.out⟩
          case measure => rw [HE.out, HIX.out, HNX.out]; omega
    · rw [pE_none (by omega)] at hpa
      subst hpa
      have HV2 : Hid (agB a b o s = true) := by
        show _ = _
        rw [HV.out]
        exact allB_of fun j hj => HJ.out j (by have := HLA.out; omega)
      clear hpb
      go_wp2_with fail
      go_ret
      exact ⟨by rw [HV2.out]; rfl, HI.out⟩
set_option linter.unusedSimpArgs false in
set_option maxRecDepth 100000 in
set_option maxHeartbeats 2000000 in
theorem offset_any (r r2 : Nat) (es fs : List Nat) (a b : List (Int × ByteArray)) (s : Int) (w : World) (ha : RoC w r es a) (hb : RoC w r2 fs b) :
    Calls Try.prog 66 #[.pointer (some ⟨r, 0, none⟩), .pointer (some ⟨r2, 0, none⟩), .int .i64 s] w fun e w' => (∃ o, e = .returned (.tuple #[.int .i64 o, .bool (ofB a b s)])) ∧ Below w.heap.size w w' := by
  have HA := Lib.hid ha
  have HB := Lib.hid hb
  clear ha hb
  go_enter Try.func66, Try.ntmps66
  by_cases h0 : s < 0
  · have HV : Hid (ofB a b s = false) := by show _ = _; unfold ofB; rw [inB_false.2 (by omega)]; rfl
    go_wp2_with fail
    go_ret2
    exact ⟨⟨0, by rw [HV.out]; rfl⟩, Below.refl _ _⟩
  by_cases h5 : 5 < s
  · have HV : Hid (ofB a b s = false) := by show _ = _; unfold ofB; rw [inB_false.2 (by omega)]; rfl
    go_wp2_with fail
    go_ret2
    exact ⟨⟨0, by rw [HV.out]; rfl⟩, Below.refl _ _⟩
  have HV : Hid (ofB a b s = ofK a b s 61) := by show _ = _; unfold ofB; rw [inB_true.2 (by omega)]; rfl
  go_wp2_with fail
  go_loopw [8] (fun o wr => ∃ k : Nat, k ≤ 61 ∧ o = .int .i64 ((k : Int) - 30) ∧ Hid (∀ j : Nat, j < k → agB a b ((j : Int) - 30) s = false) ∧ Hid (Below w.heap.size w wr)) (fun o _ => 61 - (intOf o + 30).toNat)
  case atStart => exact ⟨0, Nat.zero_le _, rfl, fun j hj => by omega, Below.refl _ _⟩
  case round =>
    obtain ⟨k, hk, rfl, HJ, HI⟩ := hrel
    by_cases hlt : k < 61
    · have HF := Lib.hid (fits_any r r2 es fs a b ((k : Int) - 30) s wr (HA.out.below HI.out) (HB.out.below HI.out) (by omega) (by omega))
      have hle : (k : Int) - 30 ≤ 30 := by omega
      have HY : Hid (agB a b ((k : Int) - 30) s = true → ofK a b s 61 = true) := fun h => ofK_yes hlt h
      have HN : Hid (agB a b ((k : Int) - 30) s = false → ∀ j : Nat, j < k + 1 → agB a b ((j : Int) - 30) s = false) := fun h j hj => by
        rcases Nat.lt_or_ge j k with q | q
        · exact HJ.out j q
        · obtain rfl : j = k := by omega
          exact h
      generalize agB a b ((k : Int) - 30) s = t at *
      have hw1 : IntKind.i64.wrap ((k : Int) - 30 + 1) = ((k + 1 : Nat) : Int) - 30 := by rw [IntWalk.i64_in _ (by omega)]; omega
      go_wp2_with fail
      refine HF.out.mono ?_
      rintro e w1 ⟨rfl, hb1⟩
      replace HI := Lib.hid (HI.out.trans (hb1.mono HI.out.size))
      clear hb1 HF
      cases t
      · have HJ2 := Lib.hid (HN.out rfl)
        clear HN HY
        go_wp2_with fail
        go_roundw
        case rel => exact ⟨k + 1, by omega, rfl, HJ2.out, HI.out⟩
        case measure => simp [intOf]; omega
      · have HV2 : Hid (ofB a b s = true) := by show _ = _; rw [HV.out]; exact HY.out rfl
        clear HN HY
        go_wp2_with fail
        go_ret2
        exact ⟨⟨_, by rw [HV2.out]; rfl⟩, HI.out⟩
    · obtain rfl : k = 61 := by omega
      have HV2 : Hid (ofB a b s = false) := by show _ = _; rw [HV.out]; exact ofK_no.2 HJ.out
      go_wp2_with fail
      go_ret2
      exact ⟨⟨0, by rw [HV2.out]; rfl⟩, HI.out⟩
end Go.Proofs.Ytokddeoliieofaa
namespace Go.Proofs.Ytokddeoliieofaa
open Go.RowKit

/-- the notes but for one, before a place -/
def wtN (a : List (Int × ByteArray)) (x : Nat) : Nat → List (Int × ByteArray)
  | 0 => []
  | j + 1 => if j = x then wtN a x j else wtN a x j ++ [(nM a j, nL a j)]
/-- the notes but for one -/
def lsN (a : List (Int × ByteArray)) (x : Nat) : List (Int × ByteArray) := a.take x ++ a.drop (x + 1)
theorem wtN_len (a : List (Int × ByteArray)) (x : Nat) : ∀ j, (wtN a x j).length ≤ j
  | 0 => Nat.le_refl _
  | j + 1 => by
    have := wtN_len a x j
    simp only [wtN]
    split
    · omega
    · simp; omega
theorem nt_at {a : List (Int × ByteArray)} {j : Nat} (h : j < a.length) : (nM a j, nL a j) = a[j] := by rw [nM_at h, nL_at h]
theorem wt_low {a : List (Int × ByteArray)} {x : Nat} : ∀ {j : Nat}, j ≤ x → j ≤ a.length → wtN a x j = a.take j
  | 0, _, _ => by simp [wtN]
  | j + 1, h1, h2 => by
    simp only [wtN]
    rw [if_neg (by omega), wt_low (by omega) (by omega), nt_at (by omega)]
    exact (List.take_succ_eq_append_getElem (by omega)).symm
theorem wt_high {a : List (Int × ByteArray)} {x : Nat} : ∀ {d : Nat}, x + 1 + d ≤ a.length → wtN a x (x + 1 + d) = a.take x ++ (a.drop (x + 1)).take d
  | 0, h => by
    show wtN a x (x + 1) = _
    simp only [wtN]
    rw [if_pos trivial, wt_low (Nat.le_refl _) (by omega)]
    simp
  | d + 1, h => by
    show wtN a x ((x + 1 + d) + 1) = _
    simp only [wtN]
    rw [if_neg (by omega), wt_high (by omega), nt_at (by omega), List.append_assoc]
    congr 1
    have hl : d < (a.drop (x + 1)).length := by simp; omega
    rw [List.take_succ_eq_append_getElem hl, List.getElem_drop]
theorem wt_ls {a : List (Int × ByteArray)} {x : Nat} (h : x < a.length) : wtN a x a.length = lsN a x := by
  have e := wt_high (a := a) (x := x) (d := a.length - (x + 1)) (by omega)
  rw [show x + 1 + (a.length - (x + 1)) = a.length by omega] at e
  rw [e]
  unfold lsN
  congr 1
  exact List.take_of_length_le (by simp)
theorem lsN_at {a : List (Int × ByteArray)} {x : Nat} (h : x < a.length) (j : Nat) :
    (j < x → nM (lsN a x) j = nM a j ∧ nL (lsN a x) j = nL a j) ∧ (x ≤ j → nM (lsN a x) j = nM a (j + 1) ∧ nL (lsN a x) j = nL a (j + 1)) := by
  have hl : (a.take x).length = x := by simp; omega
  unfold lsN
  refine ⟨fun hj => ?_, fun hj => ?_⟩
  · have q := nM_left (xa := a.take x) (xb := a.drop (x + 1)) (k := j) (by omega)
    rw [q.1, q.2]
    exact nM_take hj
  · have q := nM_right (xa := a.take x) (xb := a.drop (x + 1)) (j - x)
    rw [hl, show x + (j - x) = j by omega] at q
    rw [q.1, q.2]
    have q2 := nM_drop (ns := a) (k := x + 1) (j := j - x)
    rw [show x + 1 + (j - x) = j + 1 by omega] at q2
    exact q2
theorem lsN_len {a : List (Int × ByteArray)} {x : Nat} (h : x < a.length) : (lsN a x).length = a.length - 1 := by
  unfold lsN
  simp
  omega
theorem rgV_ls {a : List (Int × ByteArray)} {x : Nat} (ha : rgV a = true) (h : x < a.length) : rgV (lsN a x) = true := by
  have hl := lsN_len h
  have h30 := (rgV_true.1 ha).1
  have hok := fun i hi => okN_true.1 ((rgV_true.1 ha).2 i hi)
  have m1 := fun j => (lsN_at h j).1
  have m2 := fun j => (lsN_at h j).2
  refine rgV_true.2 ⟨by omega, fun i hi => okN_true.2 ?_⟩
  generalize lsN a x = y at *
  rcases Nat.lt_or_ge i x with h1 | h1
  · have e : prM y i = prM a i := by
      unfold prM
      split
      · rfl
      · exact (m1 (i - 1) (by omega)).1
    rw [e, (m1 i h1).1, (m1 i h1).2]
    exact hok i (by omega)
  · have q := hok (i + 1) (by omega)
    rw [(m2 i h1).1, (m2 i h1).2]
    refine ⟨⟨?_, q.1.2⟩, q.2⟩
    rw [prM_succ] at q
    have q0 := hok i (by omega)
    by_cases h2 : i = x
    · have e : prM y i = prM a i := by
        unfold prM
        split
        · rfl
        · exact (m1 (i - 1) (by omega)).1
      rw [e]
      omega
    · have e : prM y i = nM a i := by
        unfold prM
        rw [if_neg (by omega), (m2 (i - 1) (by omega)).1, show i - 1 + 1 = i by omega]
      rw [e]
      exact q.1.1
/-- what without has made so far -/
structure WtI (w wr : World) (r : Nat) (es : List Nat) (a : List (Int × ByteArray)) (x q : Nat) (fs : List Nat) (i : Nat) : Prop where
  rg : RgC wr r es a
  nw : RgC wr q fs (wtN a x i)
  nb : RgB w.heap.size q fs
  ob : r < w.heap.size ∧ ∀ j, j < es.length → es.getD j 0 < w.heap.size
  bl : Below w.heap.size w wr
set_option linter.unusedSimpArgs false in
set_option maxRecDepth 100000 in
set_option maxHeartbeats 2000000 in
theorem without_any (r : Nat) (es : List Nat) (a : List (Int × ByteArray)) (x : Nat) (w : World) (h : RgC w r es a) (hn : a.length ≤ 1000) :
    Calls Try.prog 65 #[.pointer (some ⟨r, 0, none⟩), .int .i64 x] w (UtRes (wtN a x a.length) w) := by
  have hrc := h.box.cell
  have hrl := h.box.lt
  have HL := Lib.hid h.len
  have hl : es.length ≤ 1000 := by rw [HL.out]; exact hn
  have HI0 : Hid (WtI w (w.alloc (.cells #[.pointer none, .pointer none, .int .i64 0] 92)) r es a x w.heap.size [] 0) :=
    ⟨h.alloc _, RgC.nil (Bx.new _ _ _), ⟨Nat.le_refl _, fun i hi => by simp at hi⟩, ⟨h.box.lt, fun j hj => (h.ent j hj).lt⟩, below_all _ _⟩
  clear h
  go_enter Try.func65, Try.ntmps65
  go_wp2_with fail
  clear hrc
  go_loopw [6, 7] (fun n e wr => ∃ i : Nat, i ≤ es.length ∧ e = pE es i ∧ n = .int .i64 i ∧ ∃ fs, Hid (WtI w wr r es a x w.heap.size fs i)) (fun _ e _ => es.length - ixE es e)
  case atStart => exact ⟨0, Nat.zero_le _, rfl, rfl, [], HI0⟩
  case round =>
    obtain ⟨i, hi, he, rfl, fs, HI⟩ := hrel
    have HR : Hid (RgC wr r es a) := HI.out.rg
    have HIX := Lib.hid (HR.out.ix hi)
    by_cases hlt : i < es.length
    · have HEB : Hid (∀ W, Below w.heap.size wr W → Bx W (es.getD i 0) 100 #[.int .i64 (nM a i), .string (nL a i), pE es (i + 1)]) := fun W hW => ((HI.out.rg.oldBlow hW HI.out.ob.1 HI.out.ob.2).ent i hlt)
      have HE := Lib.hid he
      rw [pE_some hlt] at he
      subst he
      have hec := (HR.out.ent i hlt).cell
      generalize es.getD i 0 = eb at *
      have HNX := Lib.hid (HR.out.ix (i := i + 1) (by omega))
      have HWN : Hid (wtN a x (i + 1) = if i = x then wtN a x i else wtN a x i ++ [(nM a i, nL a i)]) := rfl
      have HLT : Hid ((wtN a x i).length ≤ 1000000) := by have := wtN_len a x i; show _ ≤ _; omega
      have HPT2 : Hid (∀ z, Calls Try.prog 83 #[.pointer (some ⟨w.heap.size, 0, none⟩), .agg #[.int .i64 (Prod.fst z), .string (Prod.snd z)]] wr fun e w' => e = .returned (.tuple #[]) ∧ (∃ b, wr.heap.size ≤ b ∧ RgC w' w.heap.size (fs ++ [b]) (wtN a x i ++ [z])) ∧ Below w.heap.size wr w') := fun z => put_any w.heap.size w.heap.size fs (wtN a x i) z wr HI.out.nw HLT.out HI.out.nb HI.out.bl.size
      generalize nM a i = m at *
      generalize nL a i = l at *
      by_cases hx : i = x
      · have HN2 : Hid (wtN a x (i + 1) = wtN a x i) := by show _ = _; rw [HWN.out, if_pos hx]
        have hxi : (i : Int) = (x : Int) := by omega
        have HI2 : Hid (WtI w wr r es a x w.heap.size fs (i + 1)) := ⟨HI.out.rg, by rw [HN2.out]; exact HI.out.nw, HI.out.nb, HI.out.ob, HI.out.bl⟩
        clear hx
        have hne : (decide ((i : Int) = (x : Int))) = true := decide_eq_true hxi
        have hli : (i : Int) ≤ 1000 := by omega
        clear HPT2
        go_wp2_with fail
        go_roundw
        case rel => exact ⟨i + 1, by omega, rfl, by go_num, fs, HI2.out⟩
        case measure => rw [HE.out, HIX.out, HNX.out]; omega
      · have HN2 : Hid (wtN a x (i + 1) = wtN a x i ++ [(m, l)]) := by show _ = _; rw [HWN.out, if_neg hx]
        have hxi : ¬ (i : Int) = (x : Int) := by omega
        have HPZ : Hid (Calls Try.prog 83 #[.pointer (some ⟨w.heap.size, 0, none⟩), .agg #[.int .i64 m, .string l]] wr fun e w' => e = .returned (.tuple #[]) ∧ (∃ b, wr.heap.size ≤ b ∧ RgC w' w.heap.size (fs ++ [b]) (wtN a x i ++ [(m, l)])) ∧ Below w.heap.size wr w') := HPT2.out (m, l)
        clear HPT2
        go_wp2_with fail
        refine HPZ.out.mono ?_
        rintro e w2 ⟨rfl, ⟨bn, hbn, hrg⟩, hb2⟩
        have HI2 : Hid (WtI w w2 r es a x w.heap.size (fs ++ [bn]) (i + 1)) := ⟨HI.out.rg.oldBlow hb2 HI.out.ob.1 HI.out.ob.2, by rw [HN2.out]; exact hrg, HI.out.nb.push (by have := HI.out.bl.size; omega), HI.out.ob, HI.out.bl.trans hb2⟩
        have hec2 := (HEB.out _ hb2).cell
        clear hrg hb2 hbn hec
        go_wp2_with fail
        go_roundw
        case rel => exact ⟨i + 1, by omega, rfl, by go_num, fs ++ [bn], HI2.out⟩
        case measure => rw [HE.out, HIX.out, HNX.out]; omega
    · rw [pE_none (by omega)] at he
      subst he
      have HU : Hid (wtN a x a.length = wtN a x i) := by show _ = _; rw [← HL.out]; congr 1; omega
      go_wp2_with fail
      go_ret
      exact ⟨⟨w.heap.size, fs, rfl, by rw [HU.out]; exact HI.out.nw, HI.out.nb⟩, HI.out.bl⟩
/-- what RegisterSlack hands back -/
def SkR (a b : List (Int × ByteArray)) (w : World) (e : Ending) (w' : World) : Prop :=
  (∃ sl ok, e = .returned (.tuple #[.int .i64 sl, .bool ok]) ∧ (rgV a = true → rgV b = true → ∀ s, ofB a b s = true → ok = true ∧ sl ≤ s)) ∧ Below w.heap.size w w'
theorem ofB_in {a b : List (Int × ByteArray)} {s : Int} (h : ofB a b s = true) : 0 ≤ s ∧ s ≤ 5 := by
  unfold ofB at h
  rw [Bool.and_eq_true] at h
  exact inB_true.1 h.1
set_option linter.unusedSimpArgs false in
set_option maxRecDepth 100000 in
set_option maxHeartbeats 2000000 in
theorem slack_any (b1 o1 c1 b2 o2 c2 : Nat) (a b : List (Int × ByteArray)) (w : World) (hn1 : a.length ≤ 1000000) (hn2 : b.length ≤ 1000000) (hc1 : NtC w b1 o1 a) (hc2 : NtC w b2 o2 b) :
    Calls Try.prog 16 #[.slice (some ⟨b1, o1, none⟩) a.length c1, .slice (some ⟨b2, o2, none⟩) b.length c2] w (SkR a b w) := by
  have HRA := Lib.hid (registerOf_any b1 o1 c1 a w (by omega) hc1)
  have HRB : Hid (∀ W, Below w.heap.size w W → Calls Try.prog 64 #[.slice (some ⟨b2, o2, none⟩) b.length c2] W (RgRes (rgV b) b W)) := fun W h => registerOf_any b2 o2 c2 b W (by omega) (hc2.keep h)
  clear hc1 hc2
  go_enter Try.func16, Try.ntmps16
  go_wp2_with fail
  refine HRA.out.mono ?_
  rintro e w1 ⟨⟨r, rfl, hr⟩, hb1⟩
  have HB1 := Lib.hid hb1
  have HR1 := Lib.hid hr
  clear hr hb1
  go_wp2_with fail
  refine (HRB.out _ HB1.out).mono ?_
  rintro e w2 ⟨⟨r2, rfl, hr2⟩, hb2⟩
  have HB2 := Lib.hid (HB1.out.trans (hb2.mono HB1.out.size))
  cases hva : rgV a
  · clear hr2 hb2 HR1 HRA HRB
    go_wp2_with fail
    go_ret2
    exact ⟨⟨0, false, rfl, fun h => by rw [hva] at h; cases h⟩, HB2.out⟩
  cases hvb : rgV b
  · clear hr2 hb2 HR1 HRA HRB
    go_wp2_with fail
    go_ret2
    exact ⟨⟨0, false, rfl, fun _ h => by rw [hvb] at h; cases h⟩, HB2.out⟩
  obtain ⟨r', es, e, h1, h2⟩ := HR1.out (rgV_true.1 hva).1
  cases e
  obtain ⟨r2', fs, e, h3, h4⟩ := hr2 (rgV_true.1 hvb).1
  cases e
  have HA : Hid (RoC w2 r es a) := ⟨h1.below hb2 (Nat.le_refl _), hva⟩
  have HC : Hid (RoC w2 r2 fs b) := ⟨h3, hvb⟩
  clear h1 h2 h3 h4 hr2 hb2 HR1 HRA HRB hva hvb
  go_wp2_with fail
  go_loopw [10, 11, 12, 29] (fun _ _ _ i wr => ∃ k : Nat, k ≤ 6 ∧ i = .int .i64 k ∧ Hid (∀ j : Nat, j < k → ofB a b j = false) ∧ Hid (Below w2.heap.size w2 wr)) (fun _ _ _ i _ => 6 - (intOf i).toNat)
  case atStart => exact ⟨0, Nat.zero_le _, rfl, fun j hj => by omega, Below.refl _ _⟩
  case round =>
    obtain ⟨k, hk, rfl, HJ, HI⟩ := hrel
    by_cases hlt : k < 6
    · have HF := Lib.hid (offset_any r r2 es fs a b k wr (HA.out.below HI.out) (HC.out.below HI.out))
      have hki : (k : Int) < 6 := by omega
      have HN : Hid (ofB a b k = false → ∀ j : Nat, j < k + 1 → ofB a b j = false) := fun h j hj => by
        rcases Nat.lt_or_ge j k with q | q
        · exact HJ.out j q
        · obtain rfl : j = k := by omega
          exact h
      generalize ofB a b k = t at *
      go_wp2_with fail
      refine HF.out.mono ?_
      rintro e w3 ⟨⟨o, rfl⟩, hb3⟩
      replace HI := Lib.hid (HI.out.trans (hb3.mono HI.out.size))
      clear hb3 HF
      cases t
      · have HJ2 := Lib.hid (HN.out rfl)
        clear HN
        go_wp2_with fail
        go_roundw
        case rel => exact ⟨k + 1, by omega, by go_num, HJ2.out, HI.out⟩
        case measure => simp [intOf]; omega
      · clear HN
        go_wp2_with fail
        go_ret2
        refine ⟨⟨k, true, rfl, fun _ _ s hs => ⟨rfl, ?_⟩⟩, HB2.out.trans (HI.out.mono HB2.out.size)⟩
        have h5 := ofB_in hs
        rcases Int.lt_or_le s k with h6 | h6
        · have h7 := HJ.out s.toNat (by omega)
          rw [show ((s.toNat : Nat) : Int) = s by omega, hs] at h7
          cases h7
        · exact h6
    · obtain rfl : k = 6 := by omega
      go_wp2_with fail
      go_ret2
      refine ⟨⟨0, false, rfl, fun _ _ s hs => ?_⟩, HB2.out.trans (HI.out.mono HB2.out.size)⟩
      have h5 := ofB_in hs
      have h7 := HJ.out s.toNat (by omega)
      rw [show ((s.toNat : Nat) : Int) = s by omega, hs] at h7
      cases h7
end Go.Proofs.Ytokddeoliieofaa
namespace Go.Proofs.Ytokddeoliieofaa
open Go.RowKit

/-- the places without which a register agrees, before a place -/
def msI (a b : List (Int × ByteArray)) (s : Int) : Nat → List Int
  | 0 => []
  | k + 1 => if ofB (lsN a k) b s = true then msI a b s k ++ [(k : Int)] else msI a b s k
theorem msI_len (a b : List (Int × ByteArray)) (s : Int) : ∀ k, (msI a b s k).length ≤ k
  | 0 => Nat.le_refl _
  | k + 1 => by
    have := msI_len a b s k
    simp only [msI]
    split
    · simp; omega
    · omega
def msL (a b : List (Int × ByteArray)) (s : Int) : List Int := if (rgV a && rgV b) = true then msI a b s a.length else []
/-- ints handed back in a row of their own -/
def InR (l : List Int) (w : World) (e : Ending) (w' : World) : Prop :=
  (∃ g cap, e = .returned (.slice (some ⟨g, 0, none⟩) (List.length l) cap) ∧ w.heap.size ≤ g ∧ OwnI w' g cap l) ∧ Below w.heap.size w w'
/-- between two rounds of RegisterMissing -/
structure MiI (w wr : World) (r : Nat) (es : List Nat) (a : List (Int × ByteArray)) (r2 : Nat) (fs : List Nat) (b : List (Int × ByteArray)) (g c : Nat) (js : List Int) : Prop where
  ra : RoC wr r es a
  rb : RoC wr r2 fs b
  it : OwnI wr g c js
  d1 : g ≠ r
  d2 : ∀ i, i < es.length → g ≠ es.getD i 0
  e1 : g ≠ r2
  e2 : ∀ i, i < fs.length → g ≠ fs.getD i 0
  gz : w.heap.size ≤ g
  bl : Below w.heap.size w wr
theorem MiI.keep {w wr wa : World} {r : Nat} {es : List Nat} {a : List (Int × ByteArray)} {r2 : Nat} {fs : List Nat} {b : List (Int × ByteArray)} {g c : Nat} {js : List Int} (h : MiI w wr r es a r2 fs b g c js) (hb : Below wr.heap.size wr wa) : MiI w wa r es a r2 fs b g c js :=
  ⟨h.ra.below hb, h.rb.below hb, Own.below h.it hb (Own.lt h.it), h.d1, h.d2, h.e1, h.e2, h.gz, h.bl.trans (hb.mono h.bl.size)⟩
theorem MiI.push {w wr wa : World} {r : Nat} {es : List Nat} {a : List (Int × ByteArray)} {r2 : Nat} {fs : List Nat} {b : List (Int × ByteArray)} {g c : Nat} {js : List Int} (h : MiI w wr r es a r2 fs b g c js) {g' c' : Nat} {z : Int} (HA : Own wa g' c' (js.length + 1) 1 3 (fun q => .int .i64 (iF (js ++ [z]) q))) (hgr : wr.grownBy wa (some g)) (hd : (g' = g ∧ c' = c) ∨ wr.heap.size < g') :
    MiI w wa r es a r2 fs b g' c' (js ++ [z]) := by
  have hgz := h.gz
  have hbs := h.bl.size
  have hrl := h.ra.rg.box.lt
  have hrl2 := h.rb.rg.box.lt
  refine ⟨⟨h.ra.rg.kept hgr h.d1 h.d2, h.ra.ok⟩, ⟨h.rb.rg.kept hgr h.e1 h.e2, h.rb.ok⟩, ?_, ?_, fun i hi => ?_, ?_, fun i hi => ?_, ?_, h.bl.trans (below_of_grown hgr hgz hbs)⟩
  · unfold OwnI
    rw [List.length_append]
    exact HA
  · rcases hd with ⟨rfl, _⟩ | q
    · exact h.d1
    · omega
  · rcases hd with ⟨rfl, _⟩ | q
    · exact h.d2 i hi
    · have := (h.ra.rg.ent i hi).lt
      omega
  · rcases hd with ⟨rfl, _⟩ | q
    · exact h.e1
    · omega
  · rcases hd with ⟨rfl, _⟩ | q
    · exact h.e2 i hi
    · have := (h.rb.rg.ent i hi).lt
      omega
  · rcases hd with ⟨rfl, _⟩ | q <;> omega
set_option linter.unusedSimpArgs false in
set_option maxRecDepth 100000 in
set_option maxHeartbeats 4000000 in
theorem missing_any (b1 o1 c1 b2 o2 c2 : Nat) (a b : List (Int × ByteArray)) (s : Int) (w : World) (hn1 : a.length ≤ 1000000) (hn2 : b.length ≤ 1000000) (hc1 : NtC w b1 o1 a) (hc2 : NtC w b2 o2 b) :
    Calls Try.prog 13 #[.slice (some ⟨b1, o1, none⟩) a.length c1, .slice (some ⟨b2, o2, none⟩) b.length c2, .int .i64 s] w (InR (msL a b s) w) := by
  have HRA := Lib.hid (registerOf_any b1 o1 c1 a (w.alloc (.cells #[] 3)) (by omega) (hc1.keep (below_all _ _)))
  have HRB : Hid (∀ W, Below w.heap.size w W → Calls Try.prog 64 #[.slice (some ⟨b2, o2, none⟩) b.length c2] W (RgRes (rgV b) b W)) := fun W h => registerOf_any b2 o2 c2 b W (by omega) (hc2.keep h)
  have HO0 : Hid (OwnI (w.alloc (.cells #[] 3)) w.heap.size 0 []) := own_empty _ _ _ _
  have HB0 : Hid (Below w.heap.size w (w.alloc (.cells #[] 3))) := below_all _ _
  have hz0 : (w.alloc (.cells #[] 3)).heap.size = w.heap.size + 1 := by simp
  clear hc1 hc2
  go_enter Try.func13, Try.ntmps13
  go_wp2_with fail
  generalize w.alloc (.cells #[] 3) = w0 at *
  refine HRA.out.mono ?_
  rintro e w1 ⟨⟨r, rfl, hr⟩, hb1⟩
  have HB1 := Lib.hid (HB0.out.trans (hb1.mono HB0.out.size))
  have HO1 : Hid (OwnI w1 w.heap.size 0 []) := Own.below HO0.out hb1 (Own.lt HO0.out)
  have hz1 : w0.heap.size ≤ w1.heap.size := hb1.size
  have HR1 := Lib.hid hr
  clear hr hb1
  go_wp2_with fail
  refine (HRB.out _ HB1.out).mono ?_
  rintro e w2 ⟨⟨r2, rfl, hr2⟩, hb2⟩
  have HB2 := Lib.hid (HB1.out.trans (hb2.mono HB1.out.size))
  have HO2 : Hid (OwnI w2 w.heap.size 0 []) := Own.below HO1.out hb2 (Own.lt HO1.out)
  cases hva : rgV a
  · have HV : Hid (msL a b s = []) := by show _ = _; unfold msL; rw [hva]; rfl
    clear hr2 hb2 HR1 HRA HRB hva
    go_wp2_with fail
    go_ret
    exact ⟨⟨w.heap.size, 0, by rw [HV.out]; rfl, Nat.le_refl _, by rw [HV.out]; exact HO2.out⟩, HB2.out⟩
  cases hvb : rgV b
  · have HV : Hid (msL a b s = []) := by show _ = _; unfold msL; rw [hva, hvb]; rfl
    clear hr2 hb2 HR1 HRA HRB hva hvb
    go_wp2_with fail
    go_ret
    exact ⟨⟨w.heap.size, 0, by rw [HV.out]; rfl, Nat.le_refl _, by rw [HV.out]; exact HO2.out⟩, HB2.out⟩
  have HV : Hid (msL a b s = msI a b s a.length) := by show _ = _; unfold msL; rw [hva, hvb]; rfl
  have h30 := (rgV_true.1 hva).1
  obtain ⟨r', es, e, h1, h2⟩ := HR1.out h30
  cases e
  obtain ⟨r2', fs, e, h3, h4⟩ := hr2 (rgV_true.1 hvb).1
  cases e
  have HVA := Lib.hid hva
  have HM : Hid (MiI w w2 r es a r2 fs b w.heap.size 0 (msI a b s 0)) := by
    have q1 := h2.1
    have q3 := h4.1
    exact ⟨⟨h1.below hb2 (Nat.le_refl _), hva⟩, ⟨h3, hvb⟩, HO2.out, by omega, fun i hi => by have := h2.2 i hi; omega, by omega, fun i hi => by have := h4.2 i hi; omega, Nat.le_refl _, HB2.out⟩
  have hac := HM.out.ra.rg.box.cell 2
  simp only [List.getElem?_toArray, List.getElem?_cons_zero, List.getElem?_cons_succ] at hac
  have HLA := Lib.hid HM.out.ra.rg.len
  rw [HLA.out] at hac
  clear h1 h2 h3 h4 hr2 hb2 HR1 HRA HRB hva hvb HO0 HO1 HO2 HB0 HB1 HB2
  go_wp2_with fail
  clear hac
  go_loopw [7, 12, 13, 14, 37] (fun l _ _ _ i wr => ∃ k g c : Nat, k ≤ a.length ∧ i = .int .i64 k ∧ l = .slice (some ⟨g, 0, none⟩) (msI a b s k).length c ∧ Hid (MiI w wr r es a r2 fs b g c (msI a b s k))) (fun _ _ _ _ i _ => a.length - (intOf i).toNat)
  case atStart => exact ⟨0, w.heap.size, 0, Nat.zero_le _, rfl, rfl, HM⟩
  case round =>
    obtain ⟨k, g, c, hk, rfl, rfl, HI⟩ := hrel
    by_cases hlt : k < a.length
    · have HW := Lib.hid (without_any r es a k wr HI.out.ra.rg (by omega))
      rw [wt_ls hlt] at HW
      have HVL := Lib.hid (rgV_ls HVA.out hlt)
      have hki : (k : Int) < (a.length : Int) := by omega
      have HN : Hid (msI a b s (k + 1) = if ofB (lsN a k) b s = true then msI a b s k ++ [(k : Int)] else msI a b s k) := rfl
      have hml := msI_len a b s k
      generalize lsN a k = y at *
      generalize msI a b s k = js at *
      go_wp2_with fail
      refine HW.out.mono ?_
      rintro e w3 ⟨⟨q, gs, rfl, hq, _⟩, hb3⟩
      replace HI := Lib.hid (HI.out.keep hb3)
      have HF := Lib.hid (offset_any q r2 gs fs y b s w3 ⟨hq, HVL.out⟩ HI.out.rb)
      clear hq hb3
      cases ht : ofB y b s
      · have HN2 : Hid (msI a b s (k + 1) = js) := by show _ = _; rw [HN.out, if_neg (by rw [ht]; simp)]
        rw [ht] at HF
        clear HN ht
        go_wp2_with fail
        refine HF.out.mono ?_
        rintro e w4 ⟨⟨o, rfl⟩, hb4⟩
        replace HI := Lib.hid (HI.out.keep hb4)
        clear hb4 HF
        go_wp2_with fail
        go_roundw
        case rel => exact ⟨k + 1, g, c, by omega, by go_num, by rw [HN2.out], by rw [HN2.out]; exact HI.out⟩
        case measure => simp [intOf]; omega
      · have HN2 : Hid (msI a b s (k + 1) = js ++ [(k : Int)]) := by show _ = _; rw [HN.out, if_pos ht]
        rw [ht] at HF
        clear HN ht
        go_wp2_with fail
        refine HF.out.mono ?_
        rintro e w4 ⟨⟨o, rfl⟩, hb4⟩
        replace HI := Lib.hid (HI.out.keep hb4)
        clear hb4 HF
        go_wp2_with (at_builtin; refine wpList_pushI elInt rfl (.tmp 50) (.tmp 52) (by rfl) (f := fun q => iF (js ++ [(k : Int)]) q) (OwnI.ext HI.out.it _) (by rfl) (by rfl) (by exact iF_new.symm) (by omega) ?_; intro g' c' wb HA hgr hd; have HI4 := Lib.hid (HI.out.push HA hgr hd); clear HA hgr hd)
        go_roundw
        case rel => exact ⟨k + 1, g', c', by omega, by go_num, by rw [HN2.out]; simp, by rw [HN2.out]; exact HI4.out⟩
        case measure => simp [intOf]; omega
    · obtain rfl : k = a.length := by omega
      go_wp2_with fail
      go_ret
      exact ⟨⟨g, c, by rw [HV.out]; rfl, HI.out.gz, by rw [HV.out]; exact HI.out.it⟩, HI.out.bl⟩
end Go.Proofs.Ytokddeoliieofaa
namespace Go.Proofs.Ytokddeoliieofaa
open Go.RowKit

set_option linter.unusedSimpArgs false in
set_option maxRecDepth 100000 in
set_option maxHeartbeats 4000000 in
theorem agree_any (b1 o1 c1 b2 o2 c2 : Nat) (a b : List (Int × ByteArray)) (o s : Int) (w : World) (hva : rgV a = true) (hvb : rgV b = true) (hl : a.length = b.length) (hc1 : ∀ W, Below w.heap.size w W → NtC W b1 o1 a) (hc2 : ∀ W, Below w.heap.size w W → NtC W b2 o2 b) (ho : -30 ≤ o ∧ o ≤ 30) (hs : 0 ≤ s ∧ s ≤ 5) :
    Calls Try.prog 97 #[.slice (some ⟨b1, o1, none⟩) a.length c1, .slice (some ⟨b2, o2, none⟩) b.length c2, .int .i64 o, .int .i64 s] w fun e w' => e = .returned (.bool (allB a.length (difB a b o s))) ∧ Below w.heap.size w w' := by
  have HA := Lib.hid hc1
  have HB := Lib.hid hc2
  have HVA := Lib.hid hva
  have HVB := Lib.hid hvb
  have hla := (rgV_true.1 hva).1
  have HLE := Lib.hid hl
  rw [← hl]
  clear hc1 hc2 hva hvb hl
  go_enter Try.func97, Try.ntmps97
  go_wp2_with fail
  go_loopw [9] (fun i wr => ∃ k : Nat, k ≤ a.length ∧ i = .int .i64 k ∧ Hid (∀ j, j < k → difB a b o s j = true) ∧ Hid (Below w.heap.size w wr)) (fun i _ => a.length - (intOf i).toNat)
  case atStart => exact ⟨0, Nat.zero_le _, rfl, fun j hj => by omega, Below.refl _ _⟩
  case round =>
    obtain ⟨i, hi, rfl, HJ, HI⟩ := hrel
    by_cases hlt : i < a.length
    · have hii : (i : Int) < (a.length : Int) := by omega
      have HCC : Hid (∀ W, Below w.heap.size w W → W.cell? ⟨b1, o1 + i * 2, none⟩ = some (.int .i64 (nM a i)) ∧ W.cell? ⟨b2, o2 + i * 2, none⟩ = some (.int .i64 (nM b i))) := fun W h => ⟨(HA.out W h i hlt).1, (HB.out W h i (by rw [← HLE.out]; exact hlt)).1⟩
      have hma := nM_bd HVA.out i hlt
      have hmb := nM_bd HVB.out i (by rw [← HLE.out]; exact hlt)
      have HD : Hid (difB a b o s i = inB (nM b i - nM a i - o) (-s) s) := rfl
      have HNO : Hid (difB a b o s i = false → allB a.length (difB a b o s) = false) := fun h => allB_not hlt h
      have HYE : Hid (difB a b o s i = true → ∀ j, j < i + 1 → difB a b o s j = true) := fun h j hj => by
        rcases Nat.lt_or_ge j i with q | q
        · exact HJ.out j q
        · obtain rfl : j = i := by omega
          exact h
      generalize nM a i = ma at *
      generalize nM b i = mb at *
      have hw1 : IntKind.i64.wrap (mb - ma) = mb - ma := IntWalk.i64_in _ (by omega)
      have hw2 : IntKind.i64.wrap (mb - ma - o) = mb - ma - o := IntWalk.i64_in _ (by omega)
      have hw3 : IntKind.i64.wrap (0 - s) = -s := by rw [IntWalk.i64_in _ (by omega)]; omega
      have hw4 : IntKind.i64.wrap (-s) = -s := IntWalk.i64_in _ (by omega)
      have HIN : Hid (∀ W, Calls Try.prog 91 #[.int .i64 (mb - ma - o), .int .i64 (-s), .int .i64 s] W fun e w' => e = .returned (.bool (difB a b o s i)) ∧ W = w') := fun W => by rw [HD.out]; exact l6In_any _ _ _ W
      clear HD
      generalize difB a b o s i = t at *
      go_wp2_with fail
      refine wp_region_held_drew (S := fun W => W.cell? ⟨b1, o1 + i * 2, none⟩ = some (.int .i64 ma) ∧ W.cell? ⟨b2, o2 + i * 2, none⟩ = some (.int .i64 mb)) (by kernel_rfl) (HCC.out _ HI.out.drew) (fun hHeld => ?_)
      refine wpAnyH_take (i := 0) (oi := ?_) (v := ?_) ?_ (by kernel_rfl) (by kernel_rfl) (by kernel_rfl) ?_ ?_ (by assumption) ?_
      rotate_left 2
      · simp only [List.getElem?_toArray, List.getElem?_cons_succ, List.getElem?_cons_zero]; rfl
      · exact fun _ _ _ h => h
      · first
          | (refine Or.inr ⟨?_, ?_⟩ <;> rfl)
          | (refine Or.inl ⟨?_, ?_⟩; · rfl
             intro w hSw; (try dsimp only at hSw); go_simp; (try with_reducible rfl); done)
      try simp only [Act.put, List.setIfInBounds_toArray, List.set_cons_zero, List.set_cons_succ]
      refine wpAnyH_take (i := 1) (oi := ?_) (v := ?_) ?_ (by kernel_rfl) (by kernel_rfl) (by kernel_rfl) ?_ ?_ (by assumption) ?_
      rotate_left 2
      · simp only [List.getElem?_toArray, List.getElem?_cons_succ, List.getElem?_cons_zero]; rfl
      · exact fun _ _ _ h => h
      · first
          | (refine Or.inr ⟨?_, ?_⟩ <;> rfl)
          | (refine Or.inl ⟨?_, ?_⟩; · rfl
             intro w hSw; (try dsimp only at hSw); go_simp; (try with_reducible rfl); done)
      try simp only [Act.put, List.setIfInBounds_toArray, List.set_cons_zero, List.set_cons_succ]
      refine wpAnyH_take (i := 2) (oi := ?_) (v := ?_) ?_ (by kernel_rfl) (by kernel_rfl) (by kernel_rfl) ?_ ?_ (by assumption) ?_
      rotate_left 2
      · simp only [List.getElem?_toArray, List.getElem?_cons_succ, List.getElem?_cons_zero]; rfl
      · exact fun _ _ _ h => h
      · first
          | (refine Or.inr ⟨?_, ?_⟩ <;> rfl)
          | (refine Or.inl ⟨?_, ?_⟩; · rfl
             intro w hSw; (try dsimp only at hSw); go_simp; (try with_reducible rfl); done)
      try simp only [Act.put, List.setIfInBounds_toArray, List.set_cons_zero, List.set_cons_succ]
      refine wpAnyH_take (i := 3) (oi := ?_) (v := ?_) ?_ (by kernel_rfl) (by kernel_rfl) (by kernel_rfl) ?_ ?_ (by assumption) ?_
      rotate_left 2
      · simp only [List.getElem?_toArray, List.getElem?_cons_succ, List.getElem?_cons_zero]; rfl
      · exact fun _ _ _ h => h
      · first
          | (refine Or.inr ⟨?_, ?_⟩ <;> rfl)
          | (refine Or.inl ⟨?_, ?_⟩; · rfl
             intro w hSw; (try dsimp only at hSw); go_simp; (try with_reducible rfl); done)
      try simp only [Act.put, List.setIfInBounds_toArray, List.set_cons_zero, List.set_cons_succ]
      refine wpAnyH_take (i := 4) (oi := ?_) (v := ?_) ?_ (by kernel_rfl) (by kernel_rfl) (by kernel_rfl) ?_ ?_ (by assumption) ?_
      rotate_left 2
      · simp only [List.getElem?_toArray, List.getElem?_cons_succ, List.getElem?_cons_zero]; rfl
      · exact fun _ _ _ h => h
      · first
          | (refine Or.inr ⟨?_, ?_⟩ <;> rfl)
          | (refine Or.inl ⟨?_, ?_⟩; · rfl
             intro w hSw; (try dsimp only at hSw); go_simp; (try with_reducible rfl); done)
      try simp only [Act.put, List.setIfInBounds_toArray, List.set_cons_zero, List.set_cons_succ]
      refine wpAnyH_take (i := 5) (oi := ?_) (v := ?_) ?_ (by kernel_rfl) (by kernel_rfl) (by kernel_rfl) ?_ ?_ (by assumption) ?_
      rotate_left 2
      · simp only [List.getElem?_toArray, List.getElem?_cons_succ, List.getElem?_cons_zero]; rfl
      · exact fun _ _ _ h => h
      · first
          | (refine Or.inr ⟨?_, ?_⟩ <;> rfl)
          | (refine Or.inl ⟨?_, ?_⟩; · rfl
             intro w hSw; (try dsimp only at hSw); go_simp; (try with_reducible rfl); done)
      try simp only [Act.put, List.setIfInBounds_toArray, List.set_cons_zero, List.set_cons_succ]
      refine wpAnyH_take (i := 6) (oi := ?_) (v := ?_) ?_ (by kernel_rfl) (by kernel_rfl) (by kernel_rfl) ?_ ?_ (by assumption) ?_
      rotate_left 2
      · simp only [List.getElem?_toArray, List.getElem?_cons_succ, List.getElem?_cons_zero]; rfl
      · exact fun _ _ _ h => h
      · first
          | (refine Or.inr ⟨?_, ?_⟩ <;> rfl)
          | (refine Or.inl ⟨?_, ?_⟩; · rfl
             intro w hSw; (try dsimp only at hSw); go_simp; (try with_reducible rfl); done)
      try simp only [Act.put, List.setIfInBounds_toArray, List.set_cons_zero, List.set_cons_succ]
      refine wpAnyH_take (i := 7) (oi := ?_) (v := ?_) ?_ (by kernel_rfl) (by kernel_rfl) (by kernel_rfl) ?_ ?_ (by assumption) ?_
      rotate_left 2
      · simp only [List.getElem?_toArray, List.getElem?_cons_succ, List.getElem?_cons_zero]; rfl
      · exact fun _ _ _ h => h
      · first
          | (refine Or.inr ⟨?_, ?_⟩ <;> rfl)
          | (refine Or.inl ⟨?_, ?_⟩; · rfl
             intro w hSw; (try dsimp only at hSw); go_simp; (try with_reducible rfl); done)
      try simp only [Act.put, List.setIfInBounds_toArray, List.set_cons_zero, List.set_cons_succ]
      refine wpAnyH_take (i := 8) (oi := ?_) (v := ?_) ?_ (by kernel_rfl) (by kernel_rfl) (by kernel_rfl) ?_ ?_ (by assumption) ?_
      rotate_left 2
      · simp only [List.getElem?_toArray, List.getElem?_cons_succ, List.getElem?_cons_zero]; rfl
      · exact fun _ _ _ h => h
      · first
          | (refine Or.inr ⟨?_, ?_⟩ <;> rfl)
          | (refine Or.inl ⟨?_, ?_⟩; · rfl
             intro w hSw; (try dsimp only at hSw); go_simp; (try with_reducible rfl); done)
      try simp only [Act.put, List.setIfInBounds_toArray, List.set_cons_zero, List.set_cons_succ]
      refine wpAnyH_take (i := 9) (oi := ?_) (v := ?_) ?_ (by kernel_rfl) (by kernel_rfl) (by kernel_rfl) ?_ ?_ (by assumption) ?_
      rotate_left 2
      · simp only [List.getElem?_toArray, List.getElem?_cons_succ, List.getElem?_cons_zero]; rfl
      · exact fun _ _ _ h => h
      · first
          | (refine Or.inr ⟨?_, ?_⟩ <;> rfl)
          | (refine Or.inl ⟨?_, ?_⟩; · rfl
             intro w hSw; (try dsimp only at hSw); go_simp; (try with_reducible rfl); done)
      try simp only [Act.put, List.setIfInBounds_toArray, List.set_cons_zero, List.set_cons_succ]
      refine wpAnyH_take (i := 10) (oi := ?_) (v := ?_) ?_ (by kernel_rfl) (by kernel_rfl) (by kernel_rfl) ?_ ?_ (by assumption) ?_
      rotate_left 2
      · simp only [List.getElem?_toArray, List.getElem?_cons_succ, List.getElem?_cons_zero]; rfl
      · exact fun _ _ _ h => h
      · first
          | (refine Or.inr ⟨?_, ?_⟩ <;> rfl)
          | (refine Or.inl ⟨?_, ?_⟩; · rfl
             intro w hSw; (try dsimp only at hSw); go_simp; (try with_reducible rfl); done)
      try simp only [Act.put, List.setIfInBounds_toArray, List.set_cons_zero, List.set_cons_succ]
      refine wpAnyH_take (i := 11) (oi := ?_) (v := ?_) ?_ (by kernel_rfl) (by kernel_rfl) (by kernel_rfl) ?_ ?_ (by assumption) ?_
      rotate_left 2
      · simp only [List.getElem?_toArray, List.getElem?_cons_succ, List.getElem?_cons_zero]; rfl
      · exact fun _ _ _ h => h
      · first
          | (refine Or.inr ⟨?_, ?_⟩ <;> rfl)
          | (refine Or.inl ⟨?_, ?_⟩; · rfl
             intro w hSw; (try dsimp only at hSw); go_simp; (try with_reducible rfl); done)
      try simp only [Act.put, List.setIfInBounds_toArray, List.set_cons_zero, List.set_cons_succ]
      refine wpAnyH_take (i := 12) (oi := ?_) (v := ?_) ?_ (by kernel_rfl) (by kernel_rfl) (by kernel_rfl) ?_ ?_ (by assumption) ?_
      rotate_left 2
      · simp only [List.getElem?_toArray, List.getElem?_cons_succ, List.getElem?_cons_zero]; rfl
      · exact fun _ _ _ h => h
      · first
          | (refine Or.inr ⟨?_, ?_⟩ <;> rfl)
          | (refine Or.inl ⟨?_, ?_⟩; · rfl
             intro w hSw; (try dsimp only at hSw); go_simp; (try with_reducible rfl); done)
      try simp only [Act.put, List.setIfInBounds_toArray, List.set_cons_zero, List.set_cons_succ]
      refine wpAnyH_take (i := 13) (oi := ?_) (v := ?_) ?_ (by kernel_rfl) (by kernel_rfl) (by kernel_rfl) ?_ ?_ (by assumption) ?_
      rotate_left 2
      · simp only [List.getElem?_toArray, List.getElem?_cons_succ, List.getElem?_cons_zero]; rfl
      · exact fun _ _ _ h => h
      · first
          | (refine Or.inr ⟨?_, ?_⟩ <;> rfl)
          | (refine Or.inl ⟨?_, ?_⟩; · rfl
             intro w hSw; (try dsimp only at hSw); go_simp; (try with_reducible rfl); done)
      try simp only [Act.put, List.setIfInBounds_toArray, List.set_cons_zero, List.set_cons_succ]
      refine wpAnyH_take (i := 14) (oi := ?_) (v := ?_) ?_ (by kernel_rfl) (by kernel_rfl) (by kernel_rfl) ?_ ?_ (by assumption) ?_
      rotate_left 2
      · simp only [List.getElem?_toArray, List.getElem?_cons_succ, List.getElem?_cons_zero]; rfl
      · exact fun _ _ _ h => h
      · first
          | (refine Or.inr ⟨?_, ?_⟩ <;> rfl)
          | (refine Or.inl ⟨?_, ?_⟩; · rfl
             intro w hSw; (try dsimp only at hSw); go_simp; (try with_reducible rfl); done)
      try simp only [Act.put, List.setIfInBounds_toArray, List.set_cons_zero, List.set_cons_succ]
      refine wpAnyH_take (i := 15) (oi := ?_) (v := ?_) ?_ (by kernel_rfl) (by kernel_rfl) (by kernel_rfl) ?_ ?_ (by assumption) ?_
      rotate_left 2
      · simp only [List.getElem?_toArray, List.getElem?_cons_succ, List.getElem?_cons_zero]; rfl
      · exact fun _ _ _ h => h
      · first
          | (refine Or.inr ⟨?_, ?_⟩ <;> rfl)
          | (refine Or.inl ⟨?_, ?_⟩; · rfl
             intro w hSw; (try dsimp only at hSw); go_simp; (try with_reducible rfl); done)
      try simp only [Act.put, List.setIfInBounds_toArray, List.set_cons_zero, List.set_cons_succ]
      refine wpAnyH_ready (rs := [16]) (by kernel_rfl) (by simp) ?_
      refine AllReadyH.cons (o := ?_) ?_ (fun K hK => ?_) AllReadyH.nil
      rotate_left 1
      · simp only [List.getElem?_toArray, List.getElem?_cons_succ, List.getElem?_cons_zero]; rfl
      go_simp
      go_at_call 91
      go_must (refine Calls.mono (HIN.out _) ?_)
      rintro e w' ⟨rfl, rfl⟩
      refine hK.out _ _ ?_ (fun hHeld => ?_)
      · try dsimp only
        exact HCC.out _ HI.out.drew
      clear hK K
      try simp only [Act.put, List.setIfInBounds_toArray, List.set_cons_zero, List.set_cons_succ]
      refine wpAnyH_take (i := 17) (oi := ?_) (v := ?_) ?_ (by kernel_rfl) (by kernel_rfl) (by kernel_rfl) ?_ ?_ (by assumption) ?_
      rotate_left 2
      · simp only [List.getElem?_toArray, List.getElem?_cons_succ, List.getElem?_cons_zero]; rfl
      · exact fun _ _ _ h => h
      · first
          | (refine Or.inr ⟨?_, ?_⟩ <;> rfl)
          | (refine Or.inl ⟨?_, ?_⟩; · rfl
             intro w hSw; (try dsimp only at hSw); go_simp; (try with_reducible rfl); done)
      try simp only [Act.put, List.setIfInBounds_toArray, List.set_cons_zero, List.set_cons_succ]
      refine wpAnyH_done (by kernel_rfl) ?_ _
      replace HI := Lib.hid HI.out.drew
      clear hHeld
      generalize wr.drew = wr at *
      cases t
      · have HV2 := Lib.hid (HNO.out rfl)
        clear HNO HYE
        go_wp2_with fail
        go_ret
        exact ⟨by rw [HV2.out]; rfl, HI.out⟩
      · have HJ2 := Lib.hid (HYE.out rfl)
        clear HNO HYE
        go_wp2_with fail
        go_roundw
        case rel => exact ⟨i + 1, by omega, by go_num, HJ2.out, HI.out⟩
        case measure => simp [intOf]; omega
    · obtain rfl : i = a.length := by omega
      have HV2 : Hid (allB a.length (difB a b o s) = true) := allB_of HJ.out
      go_wp2_with fail
      go_ret
      exact ⟨by rw [HV2.out]; rfl, HI.out⟩
end Go.Proofs.Ytokddeoliieofaa
namespace Go.Proofs.Ytokddeoliieofaa
open Go.RowKit

theorem ofB_ne {a b : List (Int × ByteArray)} (h : ((txN a).toList == (txN b).toList) = false) (s : Int) : ofB a b s = false := by
  unfold ofB
  have : ofK a b s 61 = false := ofK_no.2 fun j _ => by unfold agB; rw [h]; rfl
  rw [this]
  simp
theorem agB_is {a b : List (Int × ByteArray)} (h : ((txN a).toList == (txN b).toList) = true) (o s : Int) : agB a b o s = allB a.length (difB a b o s) := by unfold agB; rw [h]; rfl
set_option linter.unusedSimpArgs false in
set_option maxRecDepth 100000 in
set_option maxHeartbeats 4000000 in
theorem specOff_any (b1 o1 c1 b2 o2 c2 : Nat) (a b : List (Int × ByteArray)) (s : Int) (w : World) (hn1 : a.length ≤ 1000000) (hn2 : b.length ≤ 1000000) (hc1 : ∀ W, Below w.heap.size w W → NtC W b1 o1 a) (hc2 : ∀ W, Below w.heap.size w W → NtC W b2 o2 b) :
    Calls Try.prog 68 #[.slice (some ⟨b1, o1, none⟩) a.length c1, .slice (some ⟨b2, o2, none⟩) b.length c2, .int .i64 s] w fun e w' => (∃ o, e = .returned (.tuple #[.int .i64 o, .bool (rgV a && (rgV b && ofB a b s))])) ∧ Below w.heap.size w w' := by
  have HA := Lib.hid hc1
  have HB := Lib.hid hc2
  have HVA := Lib.hid (specValid_any b1 o1 c1 a w (by omega) (hc1 w (Below.refl _ _)))
  have HVB := Lib.hid (specValid_any b2 o2 c2 b w (by omega) (hc2 w (Below.refl _ _)))
  clear hc1 hc2
  go_enter Try.func68, Try.ntmps68
  cases hva : rgV a
  · rw [hva] at HVA
    go_wp2_with fail
    refine HVA.out.mono ?_
    rintro e w' ⟨rfl, rfl⟩
    go_wp2_with fail
    go_ret2
    exact ⟨⟨0, rfl⟩, Below.refl _ _⟩
  rw [hva] at HVA
  cases hvb : rgV b
  · rw [hvb] at HVB
    go_wp2_with fail
    refine HVA.out.mono ?_
    rintro e w' ⟨rfl, rfl⟩
    go_wp2_with fail
    refine HVB.out.mono ?_
    rintro e w' ⟨rfl, rfl⟩
    go_wp2_with fail
    go_ret2
    exact ⟨⟨0, rfl⟩, Below.refl _ _⟩
  rw [hvb] at HVB
  have HTA := Lib.hid (specText_any b1 o1 c1 a w (by have := (rgV_true.1 hva).1; omega) (fun z hz => by rw [rgV_sz hva z hz]; omega) (HA.out w (Below.refl _ _)))
  have HTB := Lib.hid (specText_any b2 o2 c2 b w (by have := (rgV_true.1 hvb).1; omega) (fun z hz => by rw [rgV_sz hvb z hz]; omega) (HB.out w (Below.refl _ _)))
  have HVA2 := Lib.hid hva
  have HVB2 := Lib.hid hvb
  clear hva hvb
  go_wp2_with fail
  refine HVA.out.mono ?_
  rintro e w' ⟨rfl, rfl⟩
  go_wp2_with fail
  refine HVB.out.mono ?_
  rintro e w' ⟨rfl, rfl⟩
  go_wp2_with fail
  refine HTA.out.mono ?_
  rintro e w' ⟨rfl, rfl⟩
  rw [show (⟨(rgT a).toArray⟩ : ByteArray) = txN a from rfl]
  go_wp2_with fail
  refine HTB.out.mono ?_
  rintro e w' ⟨rfl, rfl⟩
  rw [show (⟨(rgT b).toArray⟩ : ByteArray) = txN b from rfl]
  clear HTA HTB HVA HVB
  cases heq : ((txN a).toList == (txN b).toList)
  · have HV := Lib.hid (ofB_ne heq s)
    generalize txN a = ta at *
    generalize txN b = tb at *
    go_wp2_with fail
    go_ret2
    exact ⟨⟨0, by rw [HV.out]; rfl⟩, Below.refl _ _⟩
  have HAG := Lib.hid (agB_is heq)
  have hl := ag_len HVA2.out HVB2.out heq
  have HLE := Lib.hid hl
  have HIN : Hid (Calls Try.prog 91 #[.int .i64 s, .int .i64 0, .int .i64 5] w fun e w' => e = .returned (.bool (inB s 0 5)) ∧ w = w') := l6In_any _ _ _ w
  have HV0 : Hid (ofB a b s = (inB s 0 5 && ofK a b s 61)) := rfl
  generalize txN a = ta at *
  generalize txN b = tb at *
  clear hl
  cases hin : inB s 0 5
  · have HV : Hid (ofB a b s = false) := by show _ = _; rw [HV0.out, hin]; rfl
    rw [hin] at HIN
    clear hin
    go_wp2_with fail
    refine HIN.out.mono ?_
    rintro e w' ⟨rfl, rfl⟩
    go_wp2_with fail
    go_ret2
    exact ⟨⟨0, by rw [HV.out]; rfl⟩, Below.refl _ _⟩
  have HV : Hid (ofB a b s = ofK a b s 61) := by show _ = _; rw [HV0.out, hin]; rfl
  have hs5 := inB_true.1 hin
  have HS5 := Lib.hid hs5
  rw [hin] at HIN
  clear hin hs5
  go_wp2_with fail
  refine HIN.out.mono ?_
  rintro e w' ⟨rfl, rfl⟩
  clear HIN
  go_wp2_with fail
  clear heq
  go_loopw [8] (fun o wr => ∃ k : Nat, k ≤ 61 ∧ o = .int .i64 ((k : Int) - 30) ∧ Hid (∀ j : Nat, j < k → agB a b ((j : Int) - 30) s = false) ∧ Hid (Below w.heap.size w wr)) (fun o _ => 61 - (intOf o + 30).toNat)
  case atStart => exact ⟨0, Nat.zero_le _, rfl, fun j hj => by omega, Below.refl _ _⟩
  case round =>
    obtain ⟨k, hk, rfl, HJ, HI⟩ := hrel
    by_cases hlt : k < 61
    · have HF := Lib.hid (agree_any b1 o1 c1 b2 o2 c2 a b ((k : Int) - 30) s wr HVA2.out HVB2.out HLE.out (fun W h => HA.out W (HI.out.trans (h.mono HI.out.size))) (fun W h => HB.out W (HI.out.trans (h.mono HI.out.size))) (by omega) HS5.out)
      rw [← HAG.out] at HF
      have hle : (k : Int) - 30 ≤ 30 := by omega
      have HY : Hid (agB a b ((k : Int) - 30) s = true → ofK a b s 61 = true) := fun h => ofK_yes hlt h
      have HN : Hid (agB a b ((k : Int) - 30) s = false → ∀ j : Nat, j < k + 1 → agB a b ((j : Int) - 30) s = false) := fun h j hj => by
        rcases Nat.lt_or_ge j k with q | q
        · exact HJ.out j q
        · obtain rfl : j = k := by omega
          exact h
      generalize agB a b ((k : Int) - 30) s = t at *
      have hw1 : IntKind.i64.wrap ((k : Int) - 30 + 1) = ((k + 1 : Nat) : Int) - 30 := by rw [IntWalk.i64_in _ (by omega)]; omega
      go_wp2_with fail
      refine HF.out.mono ?_
      rintro e w1 ⟨rfl, hb1⟩
      replace HI := Lib.hid (HI.out.trans (hb1.mono HI.out.size))
      clear hb1 HF
      cases t
      · have HJ2 := Lib.hid (HN.out rfl)
        clear HN HY
        go_wp2_with fail
        go_roundw
        case rel => exact ⟨k + 1, by omega, rfl, HJ2.out, HI.out⟩
        case measure => simp [intOf]; omega
      · have HV2 : Hid (ofB a b s = true) := by show _ = _; rw [HV.out]; exact HY.out rfl
        clear HN HY
        go_wp2_with fail
        go_ret2
        exact ⟨⟨_, by rw [HV2.out]; rfl⟩, HI.out⟩
    · obtain rfl : k = 61 := by omega
      have HV2 : Hid (ofB a b s = false) := by show _ = _; rw [HV.out]; exact ofK_no.2 HJ.out
      go_wp2_with fail
      go_ret2
      exact ⟨⟨0, by rw [HV2.out]; rfl⟩, HI.out⟩
theorem NtC.takeN {w : World} {b off : Nat} {ns : List (Int × ByteArray)} (h : NtC w b off ns) (k : Nat) : NtC w b off (ns.take k) := fun i hi => by
  have hi2 : i < k ∧ i < ns.length := by rw [List.length_take] at hi; omega
  have q := h i hi2.2
  have e := nM_take (ns := ns) hi2.1
  rw [e.1, e.2]
  exact q
theorem NtC.dropN {w : World} {b : Nat} {ns : List (Int × ByteArray)} (h : NtC w b 0 ns) (k : Nat) : NtC w b (k * 2) (ns.drop k) := fun i hi => by
  have hi2 : k + i < ns.length := by have : i < ns.length - k := by simpa using hi
                                     omega
  have q := h (k + i) hi2
  have e := nM_drop (ns := ns) (k := k) (j := i)
  rw [e.1, e.2]
  rw [show 0 + (k + i) * 2 = k * 2 + i * 2 by omega] at q
  exact q
theorem ls_l {W : World} {g k : Nat} {a : List (Int × ByteArray)} (h : NtC W g 0 a) (hk : k < a.length) : ∀ q, q < k * 2 → W.cell? ((⟨g, 0, none⟩ : Addr).add q) = some (mvF (nM (lsN a k)) (nL (lsN a k)) (0 * 2 + q)) := fun q hq =>
  nt_l (xa := a.take k) (xb := a.drop (k + 1)) (h.takeN k) q (by rw [List.length_take]; omega)
theorem ls_r {W : World} {g k c : Nat} {a : List (Int × ByteArray)} (h : NtC W g 0 a) (hk : k < a.length) (hc : a.length ≤ c) : ∀ q, q < (a.length - (k + 1)) * 2 → W.cell? ((if c = k + 1 then (⟨g, 0, none⟩ : Addr) else ⟨g, (k + 1) * 2, none⟩).add q) = some (mvF (nM (lsN a k)) (nL (lsN a k)) (k * 2 + q)) := fun q hq => by
  rw [if_neg (by omega)]
  have r := nt_r (xa := a.take k) (xb := a.drop (k + 1)) (h.dropN (k + 1)) q (by simpa using hq)
  have e : (a.take k).length = k := by simp; omega
  rw [e] at r
  exact r
set_option linter.unusedSimpArgs false in
set_option maxRecDepth 100000 in
set_option maxHeartbeats 4000000 in
theorem specMissing_any (b1 c1 b2 o2 c2 : Nat) (a b : List (Int × ByteArray)) (s : Int) (w : World) (hn1 : a.length ≤ 1000000) (hn2 : b.length ≤ 1000000) (hcap : a.length ≤ c1) (hc1 : NtC w b1 0 a) (hc2 : NtC w b2 o2 b) :
    Calls Try.prog 14 #[.slice (some ⟨b1, 0, none⟩) a.length c1, .slice (some ⟨b2, o2, none⟩) b.length c2, .int .i64 s] w (InR (msL a b s) w) := by
  have HA : Hid (∀ W, Below w.heap.size w W → NtC W b1 0 a) := fun W h => hc1.old h hc1.lt
  have HB : Hid (∀ W, Below w.heap.size w W → NtC W b2 o2 b) := fun W h => hc2.old h hc2.lt
  have HVA : Hid (∀ W, Below w.heap.size w W → Calls Try.prog 67 #[.slice (some ⟨b1, 0, none⟩) a.length c1] W fun e w' => e = .returned (.bool (rgV a)) ∧ W = w') := fun W h => specValid_any b1 0 c1 a W (by omega) (HA.out W h)
  have HO0 : Hid (OwnI (w.alloc (.cells #[] 3)) w.heap.size 0 []) := own_empty _ _ _ _
  have HB0 : Hid (Below w.heap.size w (w.alloc (.cells #[] 3))) := below_all _ _
  clear hc1 hc2
  go_enter Try.func14, Try.ntmps14
  go_wp2_with fail
  go_loopw [7, 8, 9, 10, 11] (fun l i _ _ _ wr => ∃ k g c : Nat, k ≤ a.length ∧ i = .int .i64 k ∧ ∃ js, l = .slice (some ⟨g, 0, none⟩) (List.length js) c ∧ Hid (OwnI wr g c js ∧ js = (if (rgV a && rgV b) = true then msI a b s k else []) ∧ w.heap.size ≤ g) ∧ Hid (Below w.heap.size w wr)) (fun _ i _ _ _ _ => a.length - (intOf i).toNat)
  case atStart => exact ⟨0, w.heap.size, 0, Nat.zero_le _, rfl, [], rfl, Lib.hid ⟨HO0.out, by split <;> rfl, Nat.le_refl _⟩, HB0⟩
  case round =>
    obtain ⟨k, g, c, hk, rfl, js, rfl, HJ, HI⟩ := hrel
    by_cases hlt : k < a.length
    · cases hva : rgV a
      · have HV : Hid (msL a b s = js) := by show _ = _; rw [HJ.out.2.1]; unfold msL; rw [hva]; rfl
        rw [hva] at HVA
        clear hva
        have hki : (k : Int) < (a.length : Int) := by omega
        go_wp2_with fail
        refine (HVA.out _ HI.out).mono ?_
        rintro e w' ⟨rfl, rfl⟩
        go_wp2_with fail
        go_ret
        exact ⟨⟨g, c, by rw [HV.out]; rfl, HJ.out.2.2, by rw [HV.out]; exact HJ.out.1⟩, HI.out⟩
      · have hki : (k : Int) < (a.length : Int) := by omega
        have HVL := Lib.hid (rgV_ls hva hlt)
        have HLL := Lib.hid (lsN_len hlt)
        have HFL : Hid (∀ W, Below wr.heap.size wr W → ∀ q, q < k * 2 → W.cell? ((⟨b1, 0, none⟩ : Addr).add q) = some (mvF (nM (lsN a k)) (nL (lsN a k)) (0 * 2 + q))) := fun W h => ls_l (HA.out W (HI.out.trans (h.mono HI.out.size))) hlt
        have HFR : Hid (∀ W, Below wr.heap.size wr W → ∀ q, q < (a.length - (k + 1)) * 2 → W.cell? ((if c1 = k + 1 then (⟨b1, 0, none⟩ : Addr) else ⟨b1, (k + 1) * 2, none⟩).add q) = some (mvF (nM (lsN a k)) (nL (lsN a k)) (k * 2 + q))) := fun W h => ls_r (HA.out W (HI.out.trans (h.mono HI.out.size))) hlt hcap
        have HJ1 : Hid (js.length ≤ k) := by
          show _ ≤ _
          rw [HJ.out.2.1]
          split
          · exact msI_len a b s k
          · exact Nat.zero_le _
        have hjl : js.length ≤ 1000000 := by have := HJ1.out; omega
        rw [hva] at HVA
        go_wp2_with fail
        refine (HVA.out _ HI.out).mono ?_
        rintro e w' ⟨rfl, rfl⟩
        go_wp2_with fail
        have v1 : IntKind.i64.wrap ((k : Int) + 1) = (k : Int) + 1 := IntWalk.i64_in _ (by omega)
        have v2 : ((k : Int) + 1).toNat = k + 1 := by omega
        have v3 : (0 : Int) ≤ (k : Int) + 1 := by omega
        have v4 : (k : Int) + 1 ≤ (a.length : Int) := by omega
        have v5 : (k : Int) ≤ (c1 : Int) := by omega
        have v6 : k ≤ c1 := by omega
        have HBd : Hid (Below wr.heap.size wr wr.drew) := (Below.refl _ _).drew
        refine wp_region_held_drew (S := fun W => wr.heap.size ≤ W.heap.size) (by kernel_rfl) HBd.out.size (fun hHeld => ?_)
        refine wpAnyH_take (i := 1) (oi := ?_) (v := ?_) ?_ (by kernel_rfl) (by kernel_rfl) (by kernel_rfl) ?_ ?_ (by assumption) ?_
        rotate_left 2
        · simp only [List.getElem?_toArray, List.getElem?_cons_succ, List.getElem?_cons_zero]; rfl
        · exact fun _ _ _ h => h
        · first
            | (refine Or.inr ⟨?_, ?_⟩ <;> rfl)
            | (refine Or.inl ⟨?_, ?_⟩; · rfl
               intro w hSw; (try dsimp only at hSw); go_simp; (try with_reducible rfl); done)
        try simp only [Act.put, List.setIfInBounds_toArray, List.set_cons_zero, List.set_cons_succ]
        refine wpAnyH_take (i := 2) (oi := ?_) (v := ?_) ?_ (by kernel_rfl) (by kernel_rfl) (by kernel_rfl) ?_ ?_ (by assumption) ?_
        rotate_left 2
        · simp only [List.getElem?_toArray, List.getElem?_cons_succ, List.getElem?_cons_zero]; rfl
        · exact fun _ _ _ h => h
        · first
            | (refine Or.inr ⟨?_, ?_⟩ <;> rfl)
            | (refine Or.inl ⟨?_, ?_⟩; · rfl
               intro w hSw; (try dsimp only at hSw); go_simp; (try with_reducible rfl); done)
        try simp only [Act.put, List.setIfInBounds_toArray, List.set_cons_zero, List.set_cons_succ]
        refine wpAnyH_take (i := 3) (oi := ?_) (v := ?_) ?_ (by kernel_rfl) (by kernel_rfl) (by kernel_rfl) ?_ ?_ (by assumption) ?_
        rotate_left 2
        · simp only [List.getElem?_toArray, List.getElem?_cons_succ, List.getElem?_cons_zero]; rfl
        · exact fun _ _ _ h => h
        · first
            | (refine Or.inr ⟨?_, ?_⟩ <;> rfl)
            | (refine Or.inl ⟨?_, ?_⟩; · rfl
               intro w hSw; (try dsimp only at hSw); go_simp; (try with_reducible rfl); done)
        try simp only [Act.put, List.setIfInBounds_toArray, List.set_cons_zero, List.set_cons_succ]
        refine wpAnyH_take (i := 5) (oi := ?_) (v := ?_) ?_ (by kernel_rfl) (by kernel_rfl) (by kernel_rfl) ?_ ?_ (by assumption) ?_
        rotate_left 2
        · simp only [List.getElem?_toArray, List.getElem?_cons_succ, List.getElem?_cons_zero]; rfl
        · exact fun _ _ _ h => h
        · first
            | (refine Or.inr ⟨?_, ?_⟩ <;> rfl)
            | (refine Or.inl ⟨?_, ?_⟩; · rfl
               intro w hSw; (try dsimp only at hSw); go_simp; (try with_reducible rfl); done)
        try simp only [Act.put, List.setIfInBounds_toArray, List.set_cons_zero, List.set_cons_succ]
        refine wpAnyH_take (i := 6) (oi := ?_) (v := ?_) ?_ (by kernel_rfl) (by kernel_rfl) (by kernel_rfl) ?_ ?_ (by assumption) ?_
        rotate_left 2
        · simp only [List.getElem?_toArray, List.getElem?_cons_succ, List.getElem?_cons_zero]; rfl
        · exact fun _ _ _ h => h
        · first
            | (refine Or.inr ⟨?_, ?_⟩ <;> rfl)
            | (refine Or.inl ⟨?_, ?_⟩; · rfl
               intro w hSw; (try dsimp only at hSw); go_simp; (try with_reducible rfl); done)
        try simp only [Act.put, List.setIfInBounds_toArray, List.set_cons_zero, List.set_cons_succ]
        refine wpAnyH_take (i := 7) (oi := ?_) (v := ?_) ?_ (by kernel_rfl) (by kernel_rfl) (by kernel_rfl) ?_ ?_ (by assumption) ?_
        rotate_left 2
        · simp only [List.getElem?_toArray, List.getElem?_cons_succ, List.getElem?_cons_zero]; rfl
        · exact fun _ _ _ h => h
        · first
            | (refine Or.inr ⟨?_, ?_⟩ <;> rfl)
            | (refine Or.inl ⟨?_, ?_⟩; · rfl
               intro w hSw; (try dsimp only at hSw); go_simp; (try with_reducible rfl); done)
        try simp only [Act.put, List.setIfInBounds_toArray, List.set_cons_zero, List.set_cons_succ]
        refine wpAnyH_take (i := 8) (oi := ?_) (v := ?_) ?_ (by kernel_rfl) (by kernel_rfl) (by kernel_rfl) ?_ ?_ (by assumption) ?_
        rotate_left 2
        · simp only [List.getElem?_toArray, List.getElem?_cons_succ, List.getElem?_cons_zero]; rfl
        · exact fun _ _ _ h => h
        · first
            | (refine Or.inr ⟨?_, ?_⟩ <;> rfl)
            | (refine Or.inl ⟨?_, ?_⟩; · rfl
               intro w hSw; (try dsimp only at hSw); go_simp; (try with_reducible rfl); done)
        try simp only [Act.put, List.setIfInBounds_toArray, List.set_cons_zero, List.set_cons_succ]
        refine wpAnyH_ready (rs := [0]) (by kernel_rfl) (by simp) ?_
        refine AllReadyH.cons (o := ?_) ?_ (fun K hK => ?_) AllReadyH.nil
        rotate_left 1
        · simp only [List.getElem?_toArray, List.getElem?_cons_succ, List.getElem?_cons_zero]; rfl
        go_simp
        skip
        refine hK.out _ _ ?_ (fun hHeld => ?_)
        · try dsimp only
          exact (HBd.out.alloc HBd.out.size _).size
        clear hK K
        try simp only [Act.put, List.setIfInBounds_toArray, List.set_cons_zero, List.set_cons_succ]
        refine wpAnyH_ready (rs := [4]) (by kernel_rfl) (by simp) ?_
        refine AllReadyH.cons (o := ?_) ?_ (fun K hK => ?_) AllReadyH.nil
        rotate_left 1
        · simp only [List.getElem?_toArray, List.getElem?_cons_succ, List.getElem?_cons_zero]; rfl
        refine step_app elMv rfl (.tmp 23) (.tmp 26) rfl (own_empty wr.drew 2 _ (mvF (nM (lsN a k)) (nL (lsN a k)))) rfl ⟨b1, 0, none⟩ k c1 (by rfl) (HFL.out _ (HBd.out.alloc HBd.out.size _)) (fun _ _ => mvF_one _ _ _) (by unfold maxLen; omega) (by omega) ?_
        intro gy cy wb HA hgr hd
        rw [Nat.zero_add] at HA
        have HY := Lib.hid HA
        have hgz : wr.heap.size ≤ wr.drew.heap.size := HBd.out.size
        have HBb : Hid (Below wr.heap.size wr wb) := (HBd.out.alloc HBd.out.size _).trans (below_of_grown hgr hgz (by have := (HBd.out.alloc HBd.out.size (.cells #[] 61)).size; exact this))
        have hdy : wr.heap.size ≤ gy := hd.elim (fun h => by rw [h.1]; exact hgz) (fun h => Nat.le_trans (HBd.out.alloc HBd.out.size _).size h)
        have hsz := HBb.out.size
        clear HA hgr hd
        refine hK.out _ _ ?_ (fun hHeld => ?_)
        · try dsimp only
          go_keep
        clear hK K
        try simp only [Act.put, List.setIfInBounds_toArray, List.set_cons_zero, List.set_cons_succ]
        simp only [Nat.zero_add]
        refine wpAnyH_ready (rs := [9]) (by kernel_rfl) (by simp) ?_
        refine AllReadyH.cons (o := ?_) ?_ (fun K hK => ?_) AllReadyH.nil
        rotate_left 1
        · simp only [List.getElem?_toArray, List.getElem?_cons_succ, List.getElem?_cons_zero]; rfl
        refine step_app elMv rfl (.tmp 27) (.tmp 31) rfl HY.out rfl (if c1 = k + 1 then ⟨b1, 0, none⟩ else ⟨b1, (k + 1) * 2, none⟩) (a.length - (k + 1)) (c1 - (k + 1)) (by show Value.slice _ _ _ = _; split <;> rfl) (HFR.out _ HBb.out) (fun _ _ => mvF_one _ _ _) (by unfold maxLen; omega) (by omega) ?_
        intro gz cz wc HA hgr hd
        have HZ := Lib.hid HA
        have HBc : Hid (Below wr.heap.size wr wc) := HBb.out.trans (below_of_grown hgr hdy HBb.out.size)
        have hdz : wr.heap.size ≤ gz := (by have q1 := HBb.out.size
                                            omega)
        have hsz2 := HBc.out.size
        clear HA hgr hd
        refine hK.out _ _ ?_ (fun hHeld => ?_)
        · try dsimp only
          go_keep
        clear hK K
        try simp only [Act.put, List.setIfInBounds_toArray, List.set_cons_zero, List.set_cons_succ]
        refine wpAnyH_take (i := 10) (oi := ?_) (v := ?_) ?_ (by kernel_rfl) (by kernel_rfl) (by kernel_rfl) ?_ ?_ (by assumption) ?_
        rotate_left 2
        · simp only [List.getElem?_toArray, List.getElem?_cons_succ, List.getElem?_cons_zero]; rfl
        · exact fun _ _ _ h => h
        · first
            | (refine Or.inr ⟨?_, ?_⟩ <;> rfl)
            | (refine Or.inl ⟨?_, ?_⟩; · rfl
               intro w hSw; (try dsimp only at hSw); go_simp; (try with_reducible rfl); done)
        try simp only [Act.put, List.setIfInBounds_toArray, List.set_cons_zero, List.set_cons_succ]
        refine wpAnyH_done (by kernel_rfl) ?_ _
        generalize (if c1 = k + 1 then some (⟨b1, 0, none⟩ : Addr) else some ⟨b1, (k + 1) * 2, none⟩) = pp
        clear HY HBd HBb hHeld
        have HLE : Hid (k + (a.length - (k + 1)) = (lsN a k).length) := by show _ = _; rw [HLL.out]; omega
        rw [HLE.out] at HZ ⊢
        have HZ0 : Hid (OwnN wc gz cz (lsN a k)) := HZ.out
        have HNX : Hid ((if (true && rgV b) = true then msI a b s (k + 1) else []) = if (rgV b && ofB (lsN a k) b s) = true then js ++ [(k : Int)] else js) := by
          show _ = _
          rw [HJ.out.2.1, hva]
          simp only [msI]
          cases rgV b
          · rfl
          · simp
        have hll : (lsN a k).length ≤ 1000000 := by rw [HLL.out]; omega
        have hbs := HI.out.size
        replace HI := Lib.hid (HI.out.trans (HBc.out.mono hbs))
        have HOF := Lib.hid (specOff_any gz 0 cz b2 o2 c2 (lsN a k) b s wc hll hn2 (fun W h => OwnN.nt (Own.below HZ0.out h (Own.lt HZ0.out))) (fun W h => HB.out W (HI.out.trans (h.mono HI.out.size))))
        rw [HVL.out, Bool.true_and] at HOF
        have HO1 : Hid (OwnI wc g c js) := Own.below HJ.out.1 HBc.out (Own.lt HJ.out.1)
        have hgz := HJ.out.2.2
        generalize (rgV b && ofB (lsN a k) b s) = t at *
        generalize lsN a k = y at *
        clear v1 v2 v3 v4 v5 v6 hsz hsz2 HZ hva
        go_wp2_with fail
        refine HOF.out.mono ?_
        rintro e w4 ⟨⟨o, rfl⟩, hb4⟩
        replace HI := Lib.hid (HI.out.trans (hb4.mono HI.out.size))
        replace HO1 : Hid (OwnI w4 g c js) := Own.below HO1.out hb4 (Own.lt HO1.out)
        clear hb4 HOF
        cases t
        · go_wp2_with fail
          go_roundw
          case rel => exact ⟨k + 1, g, c, by omega, by go_num, js, rfl, Lib.hid ⟨HO1.out, by rw [HNX.out]; simp, hgz⟩, HI.out⟩
          case measure => simp [intOf]; omega
        · go_wp2_with (at_builtin; refine wpList_pushI elInt rfl (.tmp 41) (.tmp 43) (by rfl) (f := fun q => iF (js ++ [(k : Int)]) q) (OwnI.ext HO1.out _) (by rfl) (by rfl) (by exact iF_new.symm) (by omega) ?_; intro g' c' wb HA hgr hd; have HO2 : Hid (OwnI wb g' c' (js ++ [(k : Int)])) := (by show OwnI _ _ _ _; unfold OwnI; rw [List.length_append]; exact HA); have HI2 : Hid (Below w.heap.size w wb) := HI.out.trans (below_of_grown hgr hgz HI.out.size); have hgz2 : w.heap.size ≤ g' := (by have := HI.out.size; omega); clear HA hgr hd)
          go_roundw
          case rel => exact ⟨k + 1, g', c', by omega, by go_num, js ++ [(k : Int)], by simp, Lib.hid ⟨HO2.out, by rw [HNX.out]; simp, hgz2⟩, HI2.out⟩
          case measure => simp [intOf]; omega
    · obtain rfl : k = a.length := by omega
      have HV : Hid (msL a b s = js) := HJ.out.2.1.symm
      go_wp2_with fail
      go_ret
      exact ⟨⟨g, c, by rw [HV.out]; rfl, HJ.out.2.2, by rw [HV.out]; exact HJ.out.1⟩, HI.out⟩
end Go.Proofs.Ytokddeoliieofaa
namespace Go.Proofs.Ytokddeoliieofaa
open Go.RowKit

/-- what l92Both keeps -/
structure LbI (w wr : World) (R ga ca : Nat) (xa : List (Int × ByteArray)) (g cap M : Nat) (a : List (Int × ByteArray)) : Prop where
  na : NsI w wr R ga ca M xa
  ow : OwnN wr g cap a
  gz : w.heap.size ≤ g
  d : g ≠ ga
theorem LbI.pick {w wr w' : World} {R ga ca : Nat} {xa : List (Int × ByteArray)} {g cap M M' : Nat} {a : List (Int × ByteArray)} (h : LbI w wr R ga ca xa g cap M a) (hr : RdL w' R M') (hg : wr.grownBy w' (some R)) : LbI w w' R ga ca xa g cap M' a := by
  have a1 := h.na.hR
  have a2 := h.gz
  exact ⟨h.na.pick hr hg, Own.kept h.ow hg (by simp; omega), h.gz, h.d⟩
theorem LbI.drew {w wr : World} {R ga ca : Nat} {xa : List (Int × ByteArray)} {g cap M : Nat} {a : List (Int × ByteArray)} (h : LbI w wr R ga ca xa g cap M a) : LbI w wr.drew R ga ca xa g cap M a :=
  h.pick h.na.rd.drew (grownBy_drewN _ 1 _)
theorem LbI.grow {w wr wa : World} {R ga ca : Nat} {xa : List (Int × ByteArray)} {g cap M : Nat} {a : List (Int × ByteArray)} (h : LbI w wr R ga ca xa g cap M a) {g' c' : Nat} {a' : List (Int × ByteArray)} (HA : OwnN wa g' c' a') (hgr : wr.grownBy wa (some g)) (hd : g' = g ∨ wr.heap.size ≤ g') : LbI w wa R ga ca xa g' c' M a' := by
  have a1 := h.na.hR
  have a2 := h.gz
  have a3 := h.na.gr.size
  have a4 := Own.lt h.na.ow
  have a5 := h.d
  refine ⟨⟨Own.kept h.na.ow hgr (by simp; omega), h.na.gz, h.na.sm, h.na.rd.kept hgr (by omega), a1, grow_new h.na.gr hgr a2⟩, HA, ?_, ?_⟩
  · rcases hd with rfl | q <;> omega
  · rcases hd with rfl | q <;> omega
theorem LbI.out {w wr wa : World} {R ga ca : Nat} {xa : List (Int × ByteArray)} {g cap M : Nat} {a : List (Int × ByteArray)} (h : LbI w wr R ga ca xa g cap M a) {g' c' : Nat} {a' : List (Int × ByteArray)} (HA : OwnN wa g' c' a') (hb : Below wr.heap.size wr wa) (hd : wr.heap.size ≤ g') : LbI w wa R ga ca xa g' c' M a' := by
  have a1 := h.na.hR
  have a3 := h.na.gr.size
  have a4 := Own.lt h.na.ow
  refine ⟨⟨Own.below h.na.ow hb a4, h.na.gz, h.na.sm, h.na.rd.keep hb, a1, grow_below h.na.gr hb a3⟩, HA, by omega, by omega⟩
/-- two drawn lists of notes -/
def DNb (R M : Nat) (w : World) (e : Ending) (w' : World) : Prop :=
  ∃ g cap g2 cap2, ∃ xa xb : List (Int × ByteArray), e = .returned (.tuple #[.slice (some ⟨g, 0, none⟩) (List.length xa) cap, .slice (some ⟨g2, 0, none⟩) (List.length xb) cap2]) ∧ OwnN w' g cap xa ∧ OwnN w' g2 cap2 xb ∧ w.heap.size ≤ g ∧ w.heap.size ≤ g2 ∧ List.length xa ≤ 33 ∧ List.length xb ≤ 33 ∧ RdL w' R M ∧ w.grownBy w' (some R)
set_option linter.unusedSimpArgs false in
set_option maxRecDepth 100000 in
set_option maxHeartbeats 4000000 in
theorem l92Both_any (R m : Nat) (w : World) (hm : m ≤ 1000) (hr : RdL w R m) :
    Calls Try.prog 62 #[.pointer (some ⟨R, 0, none⟩)] w (DNb R (m + 300) w) := by
  have hlR := hr.lt
  have HR0 := Lib.hid hr
  clear hr
  go_enter Try.func62, Try.ntmps62
  go_wp2_with fail
  refine (l92Notes_any R m _ (by omega) HR0.out).mono ?_
  rintro e w1 ⟨ga, ca, xa, rfl, ho1, hga, hla, hsm, hr1, hg1⟩
  have HN1 : Hid (NsI w w1 R ga ca (m + 100) xa) := ⟨ho1, hga, hsm, hr1, hlR, hg1⟩
  clear ho1 hr1 hg1 hsm
  go_wp2_with fail
  refine (pickN_any R (m + 100) 6 _ (by omega) (by omega) HN1.out.rd).mono ?_
  rintro e w2 ⟨v, rfl, hv, hr2, hg2⟩
  have HN2 := Lib.hid (HN1.out.pick hr2 hg2)
  clear hr2 hg2 HN1
  by_cases hv0 : v = 0
  · have hvi : (v : Int) = 0 := by omega
    clear hv0
    go_wp2_with fail
    refine (l92Notes_any R (m + 100 + 1) _ (by omega) HN2.out.rd).mono ?_
    rintro e w3 ⟨gb, cb, xb, rfl, ho3, hgb, hlb, _, hr3, hg3⟩
    have HN3 := Lib.hid (HN2.out.pick hr3 hg3)
    have HO3 := Lib.hid ho3
    clear ho3 hr3 hg3
    go_wp2_with fail
    go_ret2
    have z := HN2.out.gr.size
    exact ⟨ga, ca, gb, cb, xa, xb, rfl, HN3.out.ow, HO3.out, hga, by omega, hla, hlb, HN3.out.rd.mono (by omega), HN3.out.gr⟩
  have hvi : ¬ (v : Int) = 0 := by omega
  clear hv0
  go_wp2_with fail
  refine (pickN_any R (m + 100 + 1) 13 _ (by omega) (by omega) HN2.out.rd).mono ?_
  rintro e w3 ⟨of, rfl, hof, hr3, hg3⟩
  have HN3 := Lib.hid (HN2.out.pick hr3 hg3)
  clear hr3 hg3 HN2
  have hw1 : IntKind.i64.wrap ((of : Int) - 6) = (of : Int) - 6 := IntWalk.i64_in _ (by omega)
  have HL0 : Hid (LbI w (w3.alloc (.cells #[] 61)) R ga ca xa w3.heap.size 0 (m + 102) []) := by
    have z := HN3.out.gr.size
    have z2 := Own.lt HN3.out.ow
    exact ⟨⟨Own.alloc HN3.out.ow _, HN3.out.gz, HN3.out.sm, HN3.out.rd.alloc _, hlR, grownBy_trans HN3.out.gr (grownBy_below (below_all _ _) _)⟩, own_empty _ _ _ _, by omega, by omega⟩
  clear HN3
  go_wp2_with fail
  go_loopw [6, 7, 8] (fun o la i wr => ∃ k : Nat, k ≤ xa.length ∧ i = .int .i64 k ∧ ∃ (La : Int) (g cap : Nat) (a : List (Int × ByteArray)), la = .int .i64 La ∧ (0 ≤ La ∧ La ≤ 3000) ∧ o = .slice (some ⟨g, 0, none⟩) a.length cap ∧ a.length = k ∧ Hid (LbI w wr R ga ca xa g cap (m + 102 + k) a)) (fun _ _ i _ => xa.length - (intOf i).toNat)
  case atStart => exact ⟨0, Nat.zero_le _, rfl, 0, w3.heap.size, 0, [], rfl, by omega, rfl, rfl, HL0⟩
  case round =>
    obtain ⟨k, hk, rfl, La, g, cap, a, rfl, hLa, rfl, rfl, HI⟩ := hrel
    by_cases hlt : a.length < xa.length
    · have hli : (a.length : Int) < (xa.length : Int) := by omega
      have hsmk := HI.out.na.sm.at hlt
      have HCC : Hid (∀ W, OwnN W ga ca xa → W.cell? ⟨ga, a.length * 2, none⟩ = some (.int .i64 (nM xa a.length)) ∧ W.cell? ⟨ga, a.length * 2 + 1, none⟩ = some (.string (nL xa a.length))) := fun W h => Own.mv h hlt
      obtain ⟨⟨hs1, hs2⟩, hs3⟩ := hsmk
      generalize nM xa a.length = x at *
      generalize nL xa a.length = l at *
      have hx1 : IntKind.i64.wrap (x + ((of : Int) - 6)) = x + ((of : Int) - 6) := IntWalk.i64_in _ (by omega)
      go_wp2_with fail
      refine wp_region_held_drew (S := fun W => W.cell? ⟨ga, a.length * 2, none⟩ = some (.int .i64 x)) (by kernel_rfl) (HCC.out _ HI.out.drew.na.ow).1 (fun hHeld => ?_)
      have HD := Lib.hid HI.out.drew
      refine wpAnyH_take (i := 0) (oi := ?_) (v := ?_) ?_ (by kernel_rfl) (by kernel_rfl) (by kernel_rfl) ?_ ?_ (by assumption) ?_
      rotate_left 2
      · simp only [List.getElem?_toArray, List.getElem?_cons_succ, List.getElem?_cons_zero]; rfl
      · exact fun _ _ _ h => h
      · first
          | (refine Or.inr ⟨?_, ?_⟩ <;> rfl)
          | (refine Or.inl ⟨?_, ?_⟩; · rfl
             intro w hSw; (try dsimp only at hSw); go_simp; (try with_reducible rfl); done)
      try simp only [Act.put, List.setIfInBounds_toArray, List.set_cons_zero, List.set_cons_succ]
      refine wpAnyH_take (i := 1) (oi := ?_) (v := ?_) ?_ (by kernel_rfl) (by kernel_rfl) (by kernel_rfl) ?_ ?_ (by assumption) ?_
      rotate_left 2
      · simp only [List.getElem?_toArray, List.getElem?_cons_succ, List.getElem?_cons_zero]; rfl
      · exact fun _ _ _ h => h
      · first
          | (refine Or.inr ⟨?_, ?_⟩ <;> rfl)
          | (refine Or.inl ⟨?_, ?_⟩; · rfl
             intro w hSw; (try dsimp only at hSw); go_simp; (try with_reducible rfl); done)
      try simp only [Act.put, List.setIfInBounds_toArray, List.set_cons_zero, List.set_cons_succ]
      refine wpAnyH_take (i := 2) (oi := ?_) (v := ?_) ?_ (by kernel_rfl) (by kernel_rfl) (by kernel_rfl) ?_ ?_ (by assumption) ?_
      rotate_left 2
      · simp only [List.getElem?_toArray, List.getElem?_cons_succ, List.getElem?_cons_zero]; rfl
      · exact fun _ _ _ h => h
      · first
          | (refine Or.inr ⟨?_, ?_⟩ <;> rfl)
          | (refine Or.inl ⟨?_, ?_⟩; · rfl
             intro w hSw; (try dsimp only at hSw); go_simp; (try with_reducible rfl); done)
      try simp only [Act.put, List.setIfInBounds_toArray, List.set_cons_zero, List.set_cons_succ]
      refine wpAnyH_take (i := 3) (oi := ?_) (v := ?_) ?_ (by kernel_rfl) (by kernel_rfl) (by kernel_rfl) ?_ ?_ (by assumption) ?_
      rotate_left 2
      · simp only [List.getElem?_toArray, List.getElem?_cons_succ, List.getElem?_cons_zero]; rfl
      · exact fun _ _ _ h => h
      · first
          | (refine Or.inr ⟨?_, ?_⟩ <;> rfl)
          | (refine Or.inl ⟨?_, ?_⟩; · rfl
             intro w hSw; (try dsimp only at hSw); go_simp; (try with_reducible rfl); done)
      try simp only [Act.put, List.setIfInBounds_toArray, List.set_cons_zero, List.set_cons_succ]
      refine wpAnyH_take (i := 4) (oi := ?_) (v := ?_) ?_ (by kernel_rfl) (by kernel_rfl) (by kernel_rfl) ?_ ?_ (by assumption) ?_
      rotate_left 2
      · simp only [List.getElem?_toArray, List.getElem?_cons_succ, List.getElem?_cons_zero]; rfl
      · exact fun _ _ _ h => h
      · first
          | (refine Or.inr ⟨?_, ?_⟩ <;> rfl)
          | (refine Or.inl ⟨?_, ?_⟩; · rfl
             intro w hSw; (try dsimp only at hSw); go_simp; (try with_reducible rfl); done)
      try simp only [Act.put, List.setIfInBounds_toArray, List.set_cons_zero, List.set_cons_succ]
      refine wpAnyH_take (i := 5) (oi := ?_) (v := ?_) ?_ (by kernel_rfl) (by kernel_rfl) (by kernel_rfl) ?_ ?_ (by assumption) ?_
      rotate_left 2
      · simp only [List.getElem?_toArray, List.getElem?_cons_succ, List.getElem?_cons_zero]; rfl
      · exact fun _ _ _ h => h
      · first
          | (refine Or.inr ⟨?_, ?_⟩ <;> rfl)
          | (refine Or.inl ⟨?_, ?_⟩; · rfl
             intro w hSw; (try dsimp only at hSw); go_simp; (try with_reducible rfl); done)
      try simp only [Act.put, List.setIfInBounds_toArray, List.set_cons_zero, List.set_cons_succ]
      refine wpAnyH_take (i := 6) (oi := ?_) (v := ?_) ?_ (by kernel_rfl) (by kernel_rfl) (by kernel_rfl) ?_ ?_ (by assumption) ?_
      rotate_left 2
      · simp only [List.getElem?_toArray, List.getElem?_cons_succ, List.getElem?_cons_zero]; rfl
      · exact fun _ _ _ h => h
      · first
          | (refine Or.inr ⟨?_, ?_⟩ <;> rfl)
          | (refine Or.inl ⟨?_, ?_⟩; · rfl
             intro w hSw; (try dsimp only at hSw); go_simp; (try with_reducible rfl); done)
      try simp only [Act.put, List.setIfInBounds_toArray, List.set_cons_zero, List.set_cons_succ]
      refine wpAnyH_take (i := 7) (oi := ?_) (v := ?_) ?_ (by kernel_rfl) (by kernel_rfl) (by kernel_rfl) ?_ ?_ (by assumption) ?_
      rotate_left 2
      · simp only [List.getElem?_toArray, List.getElem?_cons_succ, List.getElem?_cons_zero]; rfl
      · exact fun _ _ _ h => h
      · first
          | (refine Or.inr ⟨?_, ?_⟩ <;> rfl)
          | (refine Or.inl ⟨?_, ?_⟩; · rfl
             intro w hSw; (try dsimp only at hSw); go_simp; (try with_reducible rfl); done)
      try simp only [Act.put, List.setIfInBounds_toArray, List.set_cons_zero, List.set_cons_succ]
      refine wpAnyH_take (i := 8) (oi := ?_) (v := ?_) ?_ (by kernel_rfl) (by kernel_rfl) (by kernel_rfl) ?_ ?_ (by assumption) ?_
      rotate_left 2
      · simp only [List.getElem?_toArray, List.getElem?_cons_succ, List.getElem?_cons_zero]; rfl
      · exact fun _ _ _ h => h
      · first
          | (refine Or.inr ⟨?_, ?_⟩ <;> rfl)
          | (refine Or.inl ⟨?_, ?_⟩; · rfl
             intro w hSw; (try dsimp only at hSw); go_simp; (try with_reducible rfl); done)
      try simp only [Act.put, List.setIfInBounds_toArray, List.set_cons_zero, List.set_cons_succ]
      refine wpAnyH_ready (rs := [9]) (by kernel_rfl) (by simp) ?_
      refine AllReadyH.cons (o := ?_) ?_ (fun K hK => ?_) AllReadyH.nil
      rotate_left 1
      · simp only [List.getElem?_toArray, List.getElem?_cons_succ, List.getElem?_cons_zero]; rfl
      go_simp
      go_at_call 63
      go_must (refine Calls.mono (pickN_any R (m + 102 + a.length) 3 _ (by omega) (by omega) HD.out.na.rd) ?_)
      rintro e w4 ⟨pv, rfl, hpv, hr4, hg4⟩
      have HI4 := Lib.hid (HD.out.pick hr4 hg4)
      clear hr4 hg4
      refine hK.out _ _ ?_ (fun hHeld => ?_)
      · try dsimp only
        exact (HCC.out _ HI4.out.na.ow).1
      clear hK K
      try simp only [Act.put, List.setIfInBounds_toArray, List.set_cons_zero, List.set_cons_succ]
      have hx2 : IntKind.i64.wrap (x + ((of : Int) - 6) + (pv : Int)) = x + ((of : Int) - 6) + (pv : Int) := IntWalk.i64_in _ (by omega)
      have hx3 : IntKind.i64.wrap (x + ((of : Int) - 6) + (pv : Int) - 1) = x + ((of : Int) - 6) + (pv : Int) - 1 := IntWalk.i64_in _ (by omega)
      refine wpAnyH_take (i := 10) (oi := ?_) (v := ?_) ?_ (by kernel_rfl) (by kernel_rfl) (by kernel_rfl) ?_ ?_ (by assumption) ?_
      rotate_left 2
      · simp only [List.getElem?_toArray, List.getElem?_cons_succ, List.getElem?_cons_zero]; rfl
      · exact fun _ _ _ h => h
      · first
          | (refine Or.inr ⟨?_, ?_⟩ <;> rfl)
          | (refine Or.inl ⟨?_, ?_⟩; · rfl
             intro w hSw; (try dsimp only at hSw); go_simp; (try with_reducible rfl); done)
      try simp only [Act.put, List.setIfInBounds_toArray, List.set_cons_zero, List.set_cons_succ]
      refine wpAnyH_take (i := 11) (oi := ?_) (v := ?_) ?_ (by kernel_rfl) (by kernel_rfl) (by kernel_rfl) ?_ ?_ (by assumption) ?_
      rotate_left 2
      · simp only [List.getElem?_toArray, List.getElem?_cons_succ, List.getElem?_cons_zero]; rfl
      · exact fun _ _ _ h => h
      · first
          | (refine Or.inr ⟨?_, ?_⟩ <;> rfl)
          | (refine Or.inl ⟨?_, ?_⟩; · rfl
             intro w hSw; (try dsimp only at hSw); go_simp; (try with_reducible rfl); done)
      try simp only [Act.put, List.setIfInBounds_toArray, List.set_cons_zero, List.set_cons_succ]
      refine wpAnyH_take (i := 12) (oi := ?_) (v := ?_) ?_ (by kernel_rfl) (by kernel_rfl) (by kernel_rfl) ?_ ?_ (by assumption) ?_
      rotate_left 2
      · simp only [List.getElem?_toArray, List.getElem?_cons_succ, List.getElem?_cons_zero]; rfl
      · exact fun _ _ _ h => h
      · first
          | (refine Or.inr ⟨?_, ?_⟩ <;> rfl)
          | (refine Or.inl ⟨?_, ?_⟩; · rfl
             intro w hSw; (try dsimp only at hSw); go_simp; (try with_reducible rfl); done)
      try simp only [Act.put, List.setIfInBounds_toArray, List.set_cons_zero, List.set_cons_succ]
      refine wpAnyH_take (i := 13) (oi := ?_) (v := ?_) ?_ (by kernel_rfl) (by kernel_rfl) (by kernel_rfl) ?_ ?_ (by assumption) ?_
      rotate_left 2
      · simp only [List.getElem?_toArray, List.getElem?_cons_succ, List.getElem?_cons_zero]; rfl
      · exact fun _ _ _ h => h
      · first
          | (refine Or.inr ⟨?_, ?_⟩ <;> rfl)
          | (refine Or.inl ⟨?_, ?_⟩; · rfl
             intro w hSw; (try dsimp only at hSw); go_simp; (try with_reducible rfl); done)
      try simp only [Act.put, List.setIfInBounds_toArray, List.set_cons_zero, List.set_cons_succ]
      refine wpAnyH_done (by kernel_rfl) ?_ _
      obtain ⟨Lb, hLb⟩ : ∃ Lb : Int, Lb = max La (x + ((of : Int) - 6) + (pv : Int) - 1) := ⟨_, rfl⟩
      have hLb2 : 0 ≤ Lb ∧ Lb ≤ 3000 := by omega
      rw [← hLb]
      clear hx1 hx2 hx3 hHeld HD hLb
      obtain ⟨hm0, hm1⟩ := HCC.out _ HI4.out.na.ow
      have HO3 := Lib.hid (OwnN.ext HI4.out.ow (Lb, l))
      have HN := Lib.hid (ntF_new a (Lb, l))
      go_wp2_with (at_builtin; refine wpList_push elMv rfl (.tmp 41) (.tmp 49) rfl HO3.out rfl [.int .i64 Lb, .string l] (by show Value.slice _ 1 1 = _; simp) HN.out (fun _ _ => mvF_one _ _ _) (by unfold maxLen; omega) (by omega) ?_; intro g' c' wa HA hgr hd; have HOa : Hid (OwnN wa g' c' (a ++ [(Lb, l)])) := (by show OwnN _ _ _ _; unfold OwnN; rw [List.length_append]; exact HA); have HI5 := Lib.hid (HI4.out.grow HOa.out hgr (hd.imp And.left Nat.le_of_lt)); clear HA hgr hd HOa)
      go_roundw
      case rel => exact ⟨a.length + 1, by omega, by go_num, Lb, g', c', a ++ [(Lb, l)], rfl, hLb2, by simp, by simp, HI5.out⟩
      case measure => simp [intOf]; omega
    · have hle : Hid (a.length = xa.length) := by show _ = _; omega
      have hli : ¬ (a.length : Int) < (xa.length : Int) := by omega
      have hal : a.length ≤ 33 := by omega
      by_cases hp : 0 < a.length
      · have hpi : (0 : Int) < (a.length : Int) := by omega
        clear hk
        go_wp2_with fail
        refine (pickN_any R (m + 102 + a.length) 3 _ (by omega) (by omega) HI.out.na.rd).mono ?_
        rintro e w4 ⟨v2, rfl, hv2, hr4, hg4⟩
        replace HI := Lib.hid (HI.out.pick hr4 hg4)
        clear hr4 hg4
        by_cases hv0 : v2 = 0
        · have hvi : (v2 : Int) = 0 := by omega
          clear hv0
          go_wp2_with fail
          refine (pickN_any R (m + 102 + a.length + 1) a.length _ (by omega) (by omega) HI.out.na.rd).mono ?_
          rintro e wr ⟨k, rfl, hk, hr5, hg5⟩
          replace HI := Lib.hid (HI.out.pick hr5 hg5)
          clear hr5 hg5
          have hcap : a.length ≤ cap := HI.out.ow.1
          have HFL : Hid (∀ W, Below wr.heap.size wr W → ∀ q, q < k * 2 → W.cell? ((⟨g, 0, none⟩ : Addr).add q) = some (mvF (nM (lsN a k)) (nL (lsN a k)) (0 * 2 + q))) := fun W h => ls_l (OwnN.nt (Own.below HI.out.ow h (Own.lt HI.out.ow))) hk
          have HFR : Hid (∀ W, Below wr.heap.size wr W → ∀ q, q < (a.length - (k + 1)) * 2 → W.cell? ((if cap = k + 1 then (⟨g, 0, none⟩ : Addr) else ⟨g, (k + 1) * 2, none⟩).add q) = some (mvF (nM (lsN a k)) (nL (lsN a k)) (k * 2 + q))) := fun W h => ls_r (OwnN.nt (Own.below HI.out.ow h (Own.lt HI.out.ow))) hk hcap
          have HLE : Hid (k + (a.length - (k + 1)) = (lsN a k).length) := by show _ = _; rw [lsN_len hk]; omega
          have hll : (lsN a k).length ≤ 33 := by rw [lsN_len hk]; omega
          have v1 : IntKind.i64.wrap ((k : Int) + 1) = (k : Int) + 1 := IntWalk.i64_in _ (by omega)
          have v2 : ((k : Int) + 1).toNat = k + 1 := by omega
          have v3 : (0 : Int) ≤ (k : Int) + 1 := by omega
          have v4 : (k : Int) + 1 ≤ (a.length : Int) := by omega
          have v5 : (k : Int) ≤ (cap : Int) := by omega
          have v6 : k ≤ cap := by omega
          go_wp2_with fail
          have HBd : Hid (Below wr.heap.size wr wr.drew) := (Below.refl _ _).drew
          refine wp_region_held_drew (S := fun W => wr.heap.size ≤ W.heap.size) (by kernel_rfl) HBd.out.size (fun hHeld => ?_)
          refine wpAnyH_take (i := 1) (oi := ?_) (v := ?_) ?_ (by kernel_rfl) (by kernel_rfl) (by kernel_rfl) ?_ ?_ (by assumption) ?_
          rotate_left 2
          · simp only [List.getElem?_toArray, List.getElem?_cons_succ, List.getElem?_cons_zero]; rfl
          · exact fun _ _ _ h => h
          · first
              | (refine Or.inr ⟨?_, ?_⟩ <;> rfl)
              | (refine Or.inl ⟨?_, ?_⟩; · rfl
                 intro w hSw; (try dsimp only at hSw); go_simp; (try with_reducible rfl); done)
          try simp only [Act.put, List.setIfInBounds_toArray, List.set_cons_zero, List.set_cons_succ]
          refine wpAnyH_take (i := 2) (oi := ?_) (v := ?_) ?_ (by kernel_rfl) (by kernel_rfl) (by kernel_rfl) ?_ ?_ (by assumption) ?_
          rotate_left 2
          · simp only [List.getElem?_toArray, List.getElem?_cons_succ, List.getElem?_cons_zero]; rfl
          · exact fun _ _ _ h => h
          · first
              | (refine Or.inr ⟨?_, ?_⟩ <;> rfl)
              | (refine Or.inl ⟨?_, ?_⟩; · rfl
                 intro w hSw; (try dsimp only at hSw); go_simp; (try with_reducible rfl); done)
          try simp only [Act.put, List.setIfInBounds_toArray, List.set_cons_zero, List.set_cons_succ]
          refine wpAnyH_take (i := 3) (oi := ?_) (v := ?_) ?_ (by kernel_rfl) (by kernel_rfl) (by kernel_rfl) ?_ ?_ (by assumption) ?_
          rotate_left 2
          · simp only [List.getElem?_toArray, List.getElem?_cons_succ, List.getElem?_cons_zero]; rfl
          · exact fun _ _ _ h => h
          · first
              | (refine Or.inr ⟨?_, ?_⟩ <;> rfl)
              | (refine Or.inl ⟨?_, ?_⟩; · rfl
                 intro w hSw; (try dsimp only at hSw); go_simp; (try with_reducible rfl); done)
          try simp only [Act.put, List.setIfInBounds_toArray, List.set_cons_zero, List.set_cons_succ]
          refine wpAnyH_take (i := 5) (oi := ?_) (v := ?_) ?_ (by kernel_rfl) (by kernel_rfl) (by kernel_rfl) ?_ ?_ (by assumption) ?_
          rotate_left 2
          · simp only [List.getElem?_toArray, List.getElem?_cons_succ, List.getElem?_cons_zero]; rfl
          · exact fun _ _ _ h => h
          · first
              | (refine Or.inr ⟨?_, ?_⟩ <;> rfl)
              | (refine Or.inl ⟨?_, ?_⟩; · rfl
                 intro w hSw; (try dsimp only at hSw); go_simp; (try with_reducible rfl); done)
          try simp only [Act.put, List.setIfInBounds_toArray, List.set_cons_zero, List.set_cons_succ]
          refine wpAnyH_take (i := 6) (oi := ?_) (v := ?_) ?_ (by kernel_rfl) (by kernel_rfl) (by kernel_rfl) ?_ ?_ (by assumption) ?_
          rotate_left 2
          · simp only [List.getElem?_toArray, List.getElem?_cons_succ, List.getElem?_cons_zero]; rfl
          · exact fun _ _ _ h => h
          · first
              | (refine Or.inr ⟨?_, ?_⟩ <;> rfl)
              | (refine Or.inl ⟨?_, ?_⟩; · rfl
                 intro w hSw; (try dsimp only at hSw); go_simp; (try with_reducible rfl); done)
          try simp only [Act.put, List.setIfInBounds_toArray, List.set_cons_zero, List.set_cons_succ]
          refine wpAnyH_take (i := 7) (oi := ?_) (v := ?_) ?_ (by kernel_rfl) (by kernel_rfl) (by kernel_rfl) ?_ ?_ (by assumption) ?_
          rotate_left 2
          · simp only [List.getElem?_toArray, List.getElem?_cons_succ, List.getElem?_cons_zero]; rfl
          · exact fun _ _ _ h => h
          · first
              | (refine Or.inr ⟨?_, ?_⟩ <;> rfl)
              | (refine Or.inl ⟨?_, ?_⟩; · rfl
                 intro w hSw; (try dsimp only at hSw); go_simp; (try with_reducible rfl); done)
          try simp only [Act.put, List.setIfInBounds_toArray, List.set_cons_zero, List.set_cons_succ]
          refine wpAnyH_take (i := 8) (oi := ?_) (v := ?_) ?_ (by kernel_rfl) (by kernel_rfl) (by kernel_rfl) ?_ ?_ (by assumption) ?_
          rotate_left 2
          · simp only [List.getElem?_toArray, List.getElem?_cons_succ, List.getElem?_cons_zero]; rfl
          · exact fun _ _ _ h => h
          · first
              | (refine Or.inr ⟨?_, ?_⟩ <;> rfl)
              | (refine Or.inl ⟨?_, ?_⟩; · rfl
                 intro w hSw; (try dsimp only at hSw); go_simp; (try with_reducible rfl); done)
          try simp only [Act.put, List.setIfInBounds_toArray, List.set_cons_zero, List.set_cons_succ]
          refine wpAnyH_ready (rs := [0]) (by kernel_rfl) (by simp) ?_
          refine AllReadyH.cons (o := ?_) ?_ (fun K hK => ?_) AllReadyH.nil
          rotate_left 1
          · simp only [List.getElem?_toArray, List.getElem?_cons_succ, List.getElem?_cons_zero]; rfl
          go_simp
          skip
          refine hK.out _ _ ?_ (fun hHeld => ?_)
          · try dsimp only
            exact (HBd.out.alloc HBd.out.size _).size
          clear hK K
          try simp only [Act.put, List.setIfInBounds_toArray, List.set_cons_zero, List.set_cons_succ]
          refine wpAnyH_ready (rs := [4]) (by kernel_rfl) (by simp) ?_
          refine AllReadyH.cons (o := ?_) ?_ (fun K hK => ?_) AllReadyH.nil
          rotate_left 1
          · simp only [List.getElem?_toArray, List.getElem?_cons_succ, List.getElem?_cons_zero]; rfl
          refine step_app elMv rfl (.tmp 63) (.tmp 66) rfl (own_empty wr.drew 2 _ (mvF (nM (lsN a k)) (nL (lsN a k)))) rfl ⟨g, 0, none⟩ k cap (by rfl) (HFL.out _ (HBd.out.alloc HBd.out.size _)) (fun _ _ => mvF_one _ _ _) (by unfold maxLen; omega) (by omega) ?_
          intro gy cy wb HA hgr hd
          rw [Nat.zero_add] at HA
          have HY := Lib.hid HA
          have hgz : wr.heap.size ≤ wr.drew.heap.size := HBd.out.size
          have HBb : Hid (Below wr.heap.size wr wb) := (HBd.out.alloc HBd.out.size _).trans (below_of_grown hgr hgz (by have := (HBd.out.alloc HBd.out.size (.cells #[] 61)).size; exact this))
          have hdy : wr.heap.size ≤ gy := hd.elim (fun h => by rw [h.1]; exact hgz) (fun h => Nat.le_trans (HBd.out.alloc HBd.out.size _).size h)
          have hsz := HBb.out.size
          clear HA hgr hd
          refine hK.out _ _ ?_ (fun hHeld => ?_)
          · try dsimp only
            go_keep
          clear hK K
          try simp only [Act.put, List.setIfInBounds_toArray, List.set_cons_zero, List.set_cons_succ]
          simp only [Nat.zero_add]
          refine wpAnyH_ready (rs := [9]) (by kernel_rfl) (by simp) ?_
          refine AllReadyH.cons (o := ?_) ?_ (fun K hK => ?_) AllReadyH.nil
          rotate_left 1
          · simp only [List.getElem?_toArray, List.getElem?_cons_succ, List.getElem?_cons_zero]; rfl
          refine step_app elMv rfl (.tmp 67) (.tmp 71) rfl HY.out rfl (if cap = k + 1 then ⟨g, 0, none⟩ else ⟨g, (k + 1) * 2, none⟩) (a.length - (k + 1)) (cap - (k + 1)) (by show Value.slice _ _ _ = _; split <;> rfl) (HFR.out _ HBb.out) (fun _ _ => mvF_one _ _ _) (by unfold maxLen; omega) (by omega) ?_
          intro gz cz wc HA hgr hd
          have HZ := Lib.hid HA
          have HBc : Hid (Below wr.heap.size wr wc) := HBb.out.trans (below_of_grown hgr hdy HBb.out.size)
          have hdz : wr.heap.size ≤ gz := (by have q1 := HBb.out.size
                                              omega)
          have hsz2 := HBc.out.size
          clear HA hgr hd
          refine hK.out _ _ ?_ (fun hHeld => ?_)
          · try dsimp only
            go_keep
          clear hK K
          try simp only [Act.put, List.setIfInBounds_toArray, List.set_cons_zero, List.set_cons_succ]
          refine wpAnyH_take (i := 10) (oi := ?_) (v := ?_) ?_ (by kernel_rfl) (by kernel_rfl) (by kernel_rfl) ?_ ?_ (by assumption) ?_
          rotate_left 2
          · simp only [List.getElem?_toArray, List.getElem?_cons_succ, List.getElem?_cons_zero]; rfl
          · exact fun _ _ _ h => h
          · first
              | (refine Or.inr ⟨?_, ?_⟩ <;> rfl)
              | (refine Or.inl ⟨?_, ?_⟩; · rfl
                 intro w hSw; (try dsimp only at hSw); go_simp; (try with_reducible rfl); done)
          try simp only [Act.put, List.setIfInBounds_toArray, List.set_cons_zero, List.set_cons_succ]
          refine wpAnyH_done (by kernel_rfl) ?_ _
          generalize (if cap = k + 1 then some (⟨g, 0, none⟩ : Addr) else some ⟨g, (k + 1) * 2, none⟩) = pp
          clear HY HBd HBb hHeld
          rw [HLE.out] at HZ ⊢
          have HI6 := Lib.hid (HI.out.out (a' := lsN a k) HZ.out HBc.out hdz)
          generalize lsN a k = y at *
          clear v1 v2 v3 v4 v5 v6 hsz hsz2 HZ
          go_wp2_with fail
          go_ret2
          exact ⟨ga, ca, gz, cz, xa, y, rfl, HI6.out.na.ow, HI6.out.ow, hga, HI6.out.gz, hla, hll, HI6.out.na.rd.mono (by omega), HI6.out.na.gr⟩
        · have hvi : ¬ (v2 : Int) = 0 := by omega
          clear hv0
          go_wp2_with fail
          go_ret2
          exact ⟨ga, ca, g, cap, xa, a, rfl, HI.out.na.ow, HI.out.ow, hga, HI.out.gz, hla, hal, HI.out.na.rd.mono (by omega), HI.out.na.gr⟩
      · have hpi : ¬ (0 : Int) < (a.length : Int) := by omega
        clear hk
        go_wp2_with fail
        go_ret2
        exact ⟨ga, ca, g, cap, xa, a, rfl, HI.out.na.ow, HI.out.ow, hga, HI.out.gz, hla, hal, HI.out.na.rd.mono (by omega), HI.out.na.gr⟩
end Go.Proofs.Ytokddeoliieofaa
namespace Go.Proofs.Ytokddeoliieofaa
open Go.RowKit

/-- two drawn lists of notes and a slack -/
def DrM (w : World) (e : Ending) (w' : World) : Prop :=
  ∃ g cap g2 cap2, ∃ xa xb : List (Int × ByteArray), ∃ s : Int, e = .returned (.tuple #[.slice (some ⟨g, 0, none⟩) (List.length xa) cap, .slice (some ⟨g2, 0, none⟩) (List.length xb) cap2, .int .i64 s]) ∧ OwnN w' g cap xa ∧ OwnN w' g2 cap2 xb ∧ List.length xa ≤ 33 ∧ List.length xb ≤ 33 ∧ Below w.heap.size w w'
set_option linter.unusedSimpArgs false in
set_option maxRecDepth 100000 in
set_option maxHeartbeats 2000000 in
theorem drawMissing_any (ao : Option Addr) (n c : Nat) (w : World) (hnc : n ≤ c) (hn : n ≤ 9223372036854775807) (hB : BSl w ao n) :
    Calls Try.prog 12 #[.slice ao n c] w (DrM w) := by
  have HBS := Lib.hid hB
  clear hB
  go_enter Try.func12, Try.ntmps12
  go_wp2_with fail
  refine (open_any ao n c _ hn hnc HBS.out).mono ?_
  rintro e w1 ⟨R, rfl, hR, hr1, hb1⟩
  have HB1 := Lib.hid hb1
  have HR1 := Lib.hid hr1
  have hz1 : w.heap.size ≤ w1.heap.size := hb1.size
  clear hb1 hr1
  go_wp2_with fail
  refine (l92Both_any R 0 _ (by omega) HR1.out).mono ?_
  rintro e w2 ⟨g, cap, g2, cap2, xa, xb, rfl, ho, ho2, hgz, hgz2, hl, hl2, hr2, hg2⟩
  have HO := Lib.hid ho
  have HP := Lib.hid ho2
  have HR2 := Lib.hid hr2
  have HB2 := Lib.hid (HB1.out.trans (below_of_grown hg2 (by omega) (by omega)))
  have hz2 : w1.heap.size ≤ w2.heap.size := hg2.size
  have hRl := HR1.out.lt
  clear ho ho2 hr2 hg2
  go_wp2_with fail
  refine (pickN_any R _ 7 _ (by omega) (by omega) HR2.out).mono ?_
  rintro e w3 ⟨p, rfl, hp, hr3, hg3⟩
  replace HO : Hid (OwnN w3 g cap xa) := Own.kept HO.out hg3 (by simp; omega)
  replace HP : Hid (OwnN w3 g2 cap2 xb) := Own.kept HP.out hg3 (by simp; omega)
  have HR3 := Lib.hid hr3
  have HB3 := Lib.hid (HB2.out.trans (below_of_grown hg3 (by omega) (by omega)))
  have hz3 : w2.heap.size ≤ w3.heap.size := hg3.size
  clear hr3 hg3
  go_wp2_with fail
  refine (pickN_any R _ 8 _ (by omega) (by omega) HR3.out).mono ?_
  rintro e w4 ⟨q, rfl, hq, hr4, hg4⟩
  replace HO : Hid (OwnN w4 g cap xa) := Own.kept HO.out hg4 (by simp; omega)
  replace HP : Hid (OwnN w4 g2 cap2 xb) := Own.kept HP.out hg4 (by simp; omega)
  have HB4 := Lib.hid (HB3.out.trans (below_of_grown hg4 (by omega) (by omega)))
  clear hr4 hg4
  go_wp2_with fail
  go_ret3
  exact ⟨g, cap, g2, cap2, xa, xb, _, rfl, HO.out, HP.out, hl, hl2, HB4.out⟩
set_option linter.unusedSimpArgs false in
set_option maxRecDepth 100000 in
set_option maxHeartbeats 1000000 in
theorem hasInt_any (g cap : Nat) (l : List Int) (x : Int) (w : World) (hn : l.length ≤ 1000000) (hc : OwnI w g cap l) (hx : x ∈ l) :
    Calls Try.prog 17 #[.slice (some ⟨g, 0, none⟩) l.length cap, .int .i64 x] w fun e w' => e = .returned (.bool true) ∧ w = w' := by
  have HO := Lib.hid hc
  clear hc
  go_enter Try.func17, Try.ntmps17
  go_wp2_with fail
  go_loopw [5] (fun i wr => ∃ k : Nat, k ≤ l.length ∧ i = .int .i64 k ∧ w = wr ∧ Hid (∀ j, j < k → iF l j ≠ x)) (fun i _ => l.length - (intOf i).toNat)
  case atStart => exact ⟨0, Nat.zero_le _, rfl, rfl, fun j hj => by omega⟩
  case round =>
    obtain ⟨k, hk, rfl, rfl, HJ⟩ := hrel
    by_cases hlt : k < l.length
    · have hcc := Own.cell1 HO.out hlt
      have HJ2 : Hid (¬ iF l k = x → ∀ j, j < k + 1 → iF l j ≠ x) := fun he j hj => by
        rcases Nat.lt_or_ge j k with h | h
        · exact HJ.out j h
        · obtain rfl : j = k := by omega
          exact he
      generalize iF l k = z at *
      by_cases he : z = x
      · subst he
        go_wp2_with fail
        go_ret
        exact ⟨rfl, rfl⟩
      · replace HJ2 := Lib.hid (HJ2.out he)
        go_wp2_with fail
        go_roundw
        case rel => exact ⟨k + 1, by omega, by go_num, by first | exact rfl | exact trivial, HJ2.out⟩
        case measure => simp [intOf]; omega
    · exfalso
      obtain ⟨j, hj, e⟩ := List.mem_iff_getElem.1 hx
      refine HJ.out j (by omega) ?_
      unfold iF
      rw [List.getElem?_eq_getElem hj]
      exact e
theorem ms_mem {a b : List (Int × ByteArray)} {s x : Int} : ∀ {n : Nat}, x ∈ msI a b s n → ∃ k : Nat, k < n ∧ x = k ∧ ofB (lsN a k) b s = true
  | 0, h => by cases h
  | n + 1, h => by
    simp only [msI] at h
    split at h
    · rename_i hc
      rcases List.mem_append.1 h with q | q
      · obtain ⟨k, h1, h2⟩ := ms_mem q
        exact ⟨k, by omega, h2⟩
      · exact ⟨n, by omega, by simpa using q, hc⟩
    · obtain ⟨k, h1, h2⟩ := ms_mem h
      exact ⟨k, by omega, h2⟩
theorem ms_in {a b : List (Int × ByteArray)} {s : Int} {k : Nat} (hk : ofB (lsN a k) b s = true) : ∀ {n : Nat}, k < n → (k : Int) ∈ msI a b s n
  | 0, h => by omega
  | n + 1, h => by
    simp only [msI]
    by_cases e : k = n
    · subst e
      rw [if_pos hk]
      simp
    · have q := ms_in (a := a) (b := b) (s := s) hk (n := n) (by omega)
      split
      · exact List.mem_append_left _ q
      · exact q
theorem ms_up (a b : List (Int × ByteArray)) (s : Int) : ∀ n, (msI a b s n).Pairwise (· < ·)
  | 0 => List.Pairwise.nil
  | n + 1 => by
    have ih := ms_up a b s n
    simp only [msI]
    split
    · refine List.pairwise_append.2 ⟨ih, by simp, fun x hx y hy => ?_⟩
      obtain ⟨k, h1, h2, _⟩ := ms_mem hx
      have : y = (n : Int) := by simpa using hy
      omega
    · exact ih
theorem ag_self (y : List (Int × ByteArray)) : ofB y y 0 = true := by
  unfold ofB
  rw [inB_true.2 (by omega), Bool.true_and]
  refine ofK_yes (j := 30) (by omega) ?_
  unfold agB
  rw [tlx_eq rfl, Bool.true_and]
  refine allB_of fun i _ => ?_
  unfold difB
  exact inB_true.2 (by omega)
/-- all that the law asks of the answers -/
theorem ms_law {a b : List (Int × ByteArray)} {s : Int} (h0 : 0 < (msL a b s).length) : rgV a = true ∧ rgV b = true ∧ a.length = b.length + 1 ∧
    (∀ i, i < (msL a b s).length → ∃ k : Nat, k < a.length ∧ iF (msL a b s) i = k ∧ ofB (lsN a k) b s = true ∧ rgV (lsN a k) = true ∧ (lsN a k).length = b.length ∧ (k : Int) ∈ msL a (lsN a k) 0) ∧
    (∀ i, 0 < i → i < (msL a b s).length → iF (msL a b s) (i - 1) < iF (msL a b s) i) := by
  by_cases hv : (rgV a && rgV b) = true
  · have hm : msL a b s = msI a b s a.length := if_pos hv
    rw [Bool.and_eq_true] at hv
    rw [hm] at h0 ⊢
    have hat : ∀ i, i < (msI a b s a.length).length → ∃ k : Nat, k < a.length ∧ iF (msI a b s a.length) i = k ∧ ofB (lsN a k) b s = true ∧ rgV (lsN a k) = true ∧ (lsN a k).length = b.length ∧ (k : Int) ∈ msL a (lsN a k) 0 := fun i hi => by
      have he : iF (msI a b s a.length) i = (msI a b s a.length)[i] := by unfold iF; rw [List.getElem?_eq_getElem hi]; rfl
      obtain ⟨k, h1, h2, h3⟩ := ms_mem (List.getElem_mem hi)
      have hl := rgV_ls hv.1 h1
      refine ⟨k, h1, by rw [he]; exact h2, h3, hl, ?_, ?_⟩
      · cases heq : ((txN (lsN a k)).toList == (txN b).toList)
        · rw [ofB_ne heq s] at h3
          cases h3
        · exact ag_len hl hv.2 heq
      · have e : msL a (lsN a k) 0 = msI a (lsN a k) 0 a.length := if_pos (by rw [hv.1, hl]; rfl)
        rw [e]
        exact ms_in (ag_self _) h1
    refine ⟨hv.1, hv.2, ?_, hat, fun i hi hil => ?_⟩
    · obtain ⟨k, h1, _, _, _, h5, _⟩ := hat 0 h0
      rw [lsN_len h1] at h5
      omega
    · have hp := ms_up a b s a.length
      rw [List.pairwise_iff_getElem] at hp
      have q := hp (i - 1) i (by omega) hil (by omega)
      unfold iF
      rw [List.getElem?_eq_getElem (show i - 1 < _ by omega), List.getElem?_eq_getElem hil]
      exact q
  · have hm : msL a b s = [] := if_neg hv
    rw [hm] at h0
    cases h0
end Go.Proofs.Ytokddeoliieofaa
