/-
  The law FnRegisterTrains.
-/
import Derived.Test.YtokddeoliieofaaKs
import Derived.Test.YtokddeoliieofaaLSd
import Derived.Test.YtokddeoliieofaaKh
namespace Go.Proofs.Ytokddeoliieofaa
open Go.RowKit

/-- minutes handed back in a row of their own -/
def TrR (l : List Int) (w : World) (e : Ending) (w' : World) : Prop :=
  (∃ g cap, e = .returned (.slice (some ⟨g, 0, none⟩) (List.length l) cap) ∧ w.heap.size ≤ g ∧ OwnI w' g cap l) ∧ Below w.heap.size w w'
theorem smI {W : World} {g1 c1 g2 c2 : Nat} {l : List Int} (hl : l.length ≤ 1000) (h1 : OwnI W g1 c1 l) (h2 : OwnI W g2 c2 l) :
    Calls Try.prog 15 #[.slice (some ⟨g1, 0, none⟩) l.length c1, .slice (some ⟨g2, 0, none⟩) l.length c2] W fun e w' => e = .returned (.bool true) ∧ Below W.heap.size W w' :=
  (sameInts_any g1 0 l.length c1 g2 0 l.length c2 (iF l) (iF l) W (by omega) (by omega) (IC.of_own h1) (IC.of_own h2)).mono fun e w' ⟨q1, q2⟩ => ⟨by rw [q1, eqSl_same], below_dr q2 _⟩
set_option maxRecDepth 100000 in
set_option maxHeartbeats 4000000 in
set_option linter.unusedSimpArgs false in
theorem lawRTrains_any (ao : Option Addr) (n c : Nat) (w : World) (hB : BSl w ao n) (hnc : n ≤ c) (hn : n ≤ 9223372036854775807) :
    Calls Try.prog 7 #[.slice ao n c] w fun e w' => e = .returned (.bool true) ∧ Below w.heap.size w w' := by
  have HBS := Lib.hid hB
  clear hB
  by_cases hlong : 1048576 < n
  · go_enter Try.func7, Try.ntmps7
    go_wp2_with fail
    go_ret
    exact ⟨rfl, Below.refl _ _⟩
  go_enter Try.func7, Try.ntmps7
  go_wp2_with fail
  refine (drawRTrains_any ao n c _ hnc hn HBS.out).mono ?_
  rintro e w1 ⟨⟨g, cap, ns, rfl, ho, hgz, hnl, _⟩, hb1⟩
  have HO : Hid (Own w1 g cap ns.length 2 61 (mvF (nM ns) (nL ns))) := ho
  have HB := Lib.hid hb1
  clear ho hb1
  obtain ⟨l, hl⟩ : ∃ l, l = trL ns := ⟨_, rfl⟩
  have hll : l.length ≤ 33 := by
    rw [hl]
    unfold trL
    split
    · have := trI_len ns ns.length; omega
    · exact Nat.zero_le _
  have HTI : Hid (∀ W, Own W g cap ns.length 2 61 (mvF (nM ns) (nL ns)) → Calls Try.prog 21 #[.slice (some ⟨g, 0, none⟩) ns.length cap] W (TrR l W)) := fun W h => by rw [hl]; exact trains_any g 0 cap ns W (by omega) (OwnN.nt h)
  have HTS : Hid (∀ W, Own W g cap ns.length 2 61 (mvF (nM ns) (nL ns)) → Calls Try.prog 19 #[.slice (some ⟨g, 0, none⟩) ns.length cap] W (TrR l W)) := fun W h => by rw [hl]; exact specTrains_any g 0 cap ns W (by omega) (OwnN.nt h)
  have HL := Lib.hid hl
  clear hl
  go_wp2_with fail
  refine (HTI.out _ HO.out).mono ?_
  rintro e w2 ⟨⟨g1, c1, rfl, _, ho1⟩, hb2⟩
  have hb9 := hb2
  (try replace T1 := Lib.hid (Own.below T1.out hb9 (Own.lt T1.out)))
  (try replace T2 := Lib.hid (Own.below T2.out hb9 (Own.lt T2.out)))
  (try replace HX := Lib.hid (Own.below HX.out hb9 (Own.lt HX.out)))
  replace HO := Lib.hid (Own.below HO.out hb9 (Own.lt HO.out))
  replace HB := Lib.hid (HB.out.trans (Below.mono hb9 HB.out.size))
  clear hb9
  have T1 : Hid (Own w2 g1 c1 l.length 1 3 (fun i => .int .i64 (iF l i))) := ho1
  clear ho1 hb2
  go_wp2_with fail
  refine (HTS.out _ HO.out).mono ?_
  rintro e w3 ⟨⟨g2, c2, rfl, _, ho2⟩, hb3⟩
  have hb9 := hb3
  (try replace T1 := Lib.hid (Own.below T1.out hb9 (Own.lt T1.out)))
  (try replace T2 := Lib.hid (Own.below T2.out hb9 (Own.lt T2.out)))
  (try replace HX := Lib.hid (Own.below HX.out hb9 (Own.lt HX.out)))
  replace HO := Lib.hid (Own.below HO.out hb9 (Own.lt HO.out))
  replace HB := Lib.hid (HB.out.trans (Below.mono hb9 HB.out.size))
  clear hb9
  have T2 : Hid (Own w3 g2 c2 l.length 1 3 (fun i => .int .i64 (iF l i))) := ho2
  clear ho2 hb3
  go_wp2_with fail
  refine (smI (by omega) T1.out T2.out).mono ?_
  rintro e w4 ⟨rfl, hb4⟩
  have hb9 := hb4
  (try replace T1 := Lib.hid (Own.below T1.out hb9 (Own.lt T1.out)))
  (try replace T2 := Lib.hid (Own.below T2.out hb9 (Own.lt T2.out)))
  (try replace HX := Lib.hid (Own.below HX.out hb9 (Own.lt HX.out)))
  replace HO := Lib.hid (Own.below HO.out hb9 (Own.lt HO.out))
  replace HB := Lib.hid (HB.out.trans (Below.mono hb9 HB.out.size))
  clear hb9
  clear hb4
  by_cases h0 : (l.length : Int) = 0
  · go_wp2_with fail
    refine (smI (by omega) T1.out T2.out).mono ?_
    rintro e w5 ⟨rfl, hb5⟩
    have hb9 := hb5
    (try replace T1 := Lib.hid (Own.below T1.out hb9 (Own.lt T1.out)))
    (try replace T2 := Lib.hid (Own.below T2.out hb9 (Own.lt T2.out)))
    (try replace HX := Lib.hid (Own.below HX.out hb9 (Own.lt HX.out)))
    replace HO := Lib.hid (Own.below HO.out hb9 (Own.lt HO.out))
    replace HB := Lib.hid (HB.out.trans (Below.mono hb9 HB.out.size))
    clear hb9
    clear hb5
    go_wp2_with fail
    go_ret
    exact ⟨rfl, HB.out⟩
  have hsd : sdV ns = true := by
    cases e : sdV ns
    · exfalso
      apply h0
      rw [HL.out]
      unfold trL
      rw [e]
      rfl
    · rfl
  have hnp : 0 < ns.length := by
    have := trI_len ns ns.length
    have e : trL ns = trI ns ns.length := if_pos hsd
    rw [← HL.out] at e
    rw [e] at h0
    omega
  have hlp : 0 < l.length := by omega
  obtain ⟨hbd, hsu⟩ := tr_all hsd hnp
  rw [← HL.out] at hbd hsu
  have HBD := Lib.hid hbd
  have hbm := nM_bd (sdV_rg hsd) (ns.length - 1) (by omega)
  have hb0 := nM_bd (sdV_rg hsd) 0 hnp
  have HLT : Hid (∀ W, Own W g cap ns.length 2 61 (mvF (nM ns) (nL ns)) → Calls Try.prog 42 #[.slice (some ⟨g, 0, none⟩) ns.length cap, .int .i64 5] W (RuRes (ltL 5 ns) (rgV (ns.map (shN 5))) W)) := fun W h => regLate_any g 0 cap ns 5 W (sdV_rg hsd) hnp (by omega) (OwnN.nt h)
  have HSU : Hid (∀ W, Own W g1 c1 l.length 1 3 (fun i => .int .i64 (iF l i)) → Calls Try.prog 43 #[.slice (some ⟨g1, 0, none⟩) l.length c1] W fun e w' => e = .returned (.int .i64 (suT l)) ∧ W = w') := fun W h => lawsSum_any g1 0 l.length c1 (iF l) W (by omega) (fun k hk => by have := HBD.out k hk; omega) (IC.of_own h)
  obtain ⟨t, ht⟩ : ∃ t, t = txN ns := ⟨_, rfl⟩
  have HTX : Hid (∀ W, Own W g cap ns.length 2 61 (mvF (nM ns) (nL ns)) → Calls Try.prog 34 #[.slice (some ⟨g, 0, none⟩) ns.length cap] W fun e w' => e = .returned (.string t) ∧ Below W.heap.size W w') := fun W h => by
    have q := regText_any g 0 cap ns W (by omega) (OwnN.nt h)
    rw [show rtT ns = t from (if_pos (sdV_rg hsd)).trans ht.symm] at q
    exact q
  have HCO : Hid (∀ W, Calls Try.prog 44 #[.string t, .int .u8 108] W fun e w' => e = .returned (.int .i64 l.length) ∧ W = w') := fun W => by
    have h1 : t.size ≤ 1000000 := by
      rw [ht]
      show (rgT ns).toArray.size ≤ _
      rw [List.size_toArray, rgT_size (sdV_rg hsd)]
      omega
    have q := countOf_any t W h1
    rw [ht, ← trL_cnt hsd, ← HL.out, ← ht] at q
    exact q
  have HMV : Hid (∀ W, Own W g cap ns.length 2 61 (mvF (nM ns) (nL ns)) → W.cell? ⟨g, (ns.length - 1) * 2, none⟩ = some (.int .i64 (nM ns (ns.length - 1))) ∧ W.cell? ⟨g, 0, none⟩ = some (.int .i64 (nM ns 0))) := fun W h => by
    refine ⟨(Own.mv h (k := ns.length - 1) (by omega)).1, ?_⟩
    have h2 := (Own.mv h (k := 0) hnp).1
    rwa [Nat.zero_mul] at h2
  have HPV : Hid (rgV (ns.map (shN 5)) = true → ltL 5 ns = ns.map (shN 5) ∧ trL (ns.map (shN 5)) = l) := fun h => ⟨if_pos h, by rw [HL.out]; exact trL_sh hsd h⟩
  generalize suT l = su at *
  generalize nM ns (ns.length - 1) = x1 at *
  generalize nM ns 0 = x0 at *
  clear hsd ht HL hbd HTI HTS
  go_wp2_with fail
  refine (HLT.out _ HO.out).mono ?_
  rintro e w5 ⟨⟨gx, cx, rfl, hox, _⟩, hb5⟩
  have hb9 := hb5
  (try replace T1 := Lib.hid (Own.below T1.out hb9 (Own.lt T1.out)))
  (try replace T2 := Lib.hid (Own.below T2.out hb9 (Own.lt T2.out)))
  (try replace HX := Lib.hid (Own.below HX.out hb9 (Own.lt HX.out)))
  replace HO := Lib.hid (Own.below HO.out hb9 (Own.lt HO.out))
  replace HB := Lib.hid (HB.out.trans (Below.mono hb9 HB.out.size))
  clear hb9
  have HX : Hid (OwnN w5 gx cx (ltL 5 ns)) := hox
  have hxl : (ltL 5 ns).length ≤ 33 := by
    unfold ltL
    split
    · simpa using hnl
    · exact Nat.zero_le _
  obtain ⟨p, hp⟩ : ∃ p, p = rgV (ns.map (shN 5)) := ⟨_, rfl⟩
  rw [← hp] at HPV ⊢
  generalize ltL 5 ns = xs at *
  clear hb5 hox HLT hp
  go_wp2_with fail
  go_loopw [8] (fun i wr => ∃ k : Nat, k ≤ l.length ∧ i = .int .i64 k ∧ w5 = wr) (fun i _ => l.length - (intOf i).toNat)
  case atStart => exact ⟨0, Nat.zero_le _, rfl, rfl⟩
  case round =>
    obtain ⟨k, hk, rfl, rfl⟩ := hrel
    by_cases hlt : k < l.length
    · have hcc := Own.cell1 T1.out hlt
      have hbk := HBD.out k hlt
      generalize iF l k = z at *
      have hz : ¬ z < 0 := by omega
      go_wp2_with fail
      go_roundw
      case rel => exact ⟨k + 1, by omega, by go_num, by first | exact rfl | exact trivial⟩
      case measure => simp [intOf]; omega
    · obtain rfl : k = l.length := by omega
      go_wp2_with fail
      have hw1 : IntKind.i64.wrap ((ns.length : Int) - 1) = (ns.length : Int) - 1 := IntWalk.i64_in _ (by omega)
      have hw2 : ((ns.length : Int) - 1).toNat = ns.length - 1 := by omega
      have hw3 : (0 : Int) ≤ (ns.length : Int) - 1 := by omega
      have hw4 : (ns.length : Int) - 1 < (ns.length : Int) := by omega
      have hw5 : (0 : Int) < (ns.length : Int) := by omega
      have hw6 : ns.length - 1 < ns.length := by omega
      have hw8 : (1 : Int) ≤ (ns.length : Int) := by omega
      have hw7 : IntKind.i64.wrap (x1 - x0) = x1 - x0 := IntWalk.i64_in _ (by omega)
      refine wp_region_held_drew (S := fun W => W.cell? ⟨g, (ns.length - 1) * 2, none⟩ = some (.int .i64 x1) ∧ W.cell? ⟨g, 0, none⟩ = some (.int .i64 x0)) (by kernel_rfl) (HMV.out _ HO.out) (fun hHeld => ?_)
      have hbd : Below w5.heap.size w5 w5.drew := (Below.refl _ _).drew
      have hb9 := hbd
      (try replace T1 := Lib.hid (Own.below T1.out hb9 (Own.lt T1.out)))
      (try replace T2 := Lib.hid (Own.below T2.out hb9 (Own.lt T2.out)))
      (try replace HX := Lib.hid (Own.below HX.out hb9 (Own.lt HX.out)))
      replace HO := Lib.hid (Own.below HO.out hb9 (Own.lt HO.out))
      replace HB := Lib.hid (HB.out.trans (Below.mono hb9 HB.out.size))
      clear hb9
      clear hbd
      refine wpAnyH_take (i := 0) (oi := ?_) (v := ?_) ?_ (by kernel_rfl) (by kernel_rfl) (by kernel_rfl) ?_ ?_ (by assumption) ?_
      rotate_left 2
      · simp only [List.getElem?_toArray, List.getElem?_cons_succ, List.getElem?_cons_zero]; rfl
      · exact fun _ _ _ h => h
      · first
          | (refine Or.inr ⟨?_, ?_⟩ <;> rfl)
          | (refine Or.inl ⟨?_, ?_⟩; · rfl
             intro w hSw; (try dsimp only at hSw); go_simp; (try with_reducible rfl); done)
      try simp only [Act.put, List.setIfInBounds_toArray, List.set_cons_zero, List.set_cons_succ]
      refine wpAnyH_take (i := 2) (oi := ?_) (v := ?_) ?_ (by kernel_rfl) (by kernel_rfl) (by kernel_rfl) ?_ ?_ (by assumption) ?_
      rotate_left 2
      · simp only [List.getElem?_toArray, List.getElem?_cons_succ, List.getElem?_cons_zero]; rfl
      · exact fun _ _ _ h => h
      · first
          | (refine Or.inr ⟨?_, ?_⟩ <;> rfl)
          | (refine Or.inl ⟨?_, ?_⟩; · rfl
             intro w hSw; (try dsimp only at hSw); go_simp; (try with_reducible rfl); done)
      try simp only [Act.put, List.setIfInBounds_toArray, List.set_cons_zero, List.set_cons_succ]
      refine wpAnyH_take (i := 3) (oi := ?_) (v := ?_) ?_ (by kernel_rfl) (by kernel_rfl) (by kernel_rfl) ?_ ?_ (by assumption) ?_
      rotate_left 2
      · simp only [List.getElem?_toArray, List.getElem?_cons_succ, List.getElem?_cons_zero]; rfl
      · exact fun _ _ _ h => h
      · first
          | (refine Or.inr ⟨?_, ?_⟩ <;> rfl)
          | (refine Or.inl ⟨?_, ?_⟩; · rfl
             intro w hSw; (try dsimp only at hSw); go_simp; (try with_reducible rfl); done)
      try simp only [Act.put, List.setIfInBounds_toArray, List.set_cons_zero, List.set_cons_succ]
      refine wpAnyH_take (i := 4) (oi := ?_) (v := ?_) ?_ (by kernel_rfl) (by kernel_rfl) (by kernel_rfl) ?_ ?_ (by assumption) ?_
      rotate_left 2
      · simp only [List.getElem?_toArray, List.getElem?_cons_succ, List.getElem?_cons_zero]; rfl
      · exact fun _ _ _ h => h
      · first
          | (refine Or.inr ⟨?_, ?_⟩ <;> rfl)
          | (refine Or.inl ⟨?_, ?_⟩; · rfl
             intro w hSw; (try dsimp only at hSw); go_simp; (try with_reducible rfl); done)
      try simp only [Act.put, List.setIfInBounds_toArray, List.set_cons_zero, List.set_cons_succ]
      refine wpAnyH_take (i := 5) (oi := ?_) (v := ?_) ?_ (by kernel_rfl) (by kernel_rfl) (by kernel_rfl) ?_ ?_ (by assumption) ?_
      rotate_left 2
      · simp only [List.getElem?_toArray, List.getElem?_cons_succ, List.getElem?_cons_zero]; rfl
      · exact fun _ _ _ h => h
      · first
          | (refine Or.inr ⟨?_, ?_⟩ <;> rfl)
          | (refine Or.inl ⟨?_, ?_⟩; · rfl
             intro w hSw; (try dsimp only at hSw); go_simp; (try with_reducible rfl); done)
      try simp only [Act.put, List.setIfInBounds_toArray, List.set_cons_zero, List.set_cons_succ]
      refine wpAnyH_take (i := 6) (oi := ?_) (v := ?_) ?_ (by kernel_rfl) (by kernel_rfl) (by kernel_rfl) ?_ ?_ (by assumption) ?_
      rotate_left 2
      · simp only [List.getElem?_toArray, List.getElem?_cons_succ, List.getElem?_cons_zero]; rfl
      · exact fun _ _ _ h => h
      · first
          | (refine Or.inr ⟨?_, ?_⟩ <;> rfl)
          | (refine Or.inl ⟨?_, ?_⟩; · rfl
             intro w hSw; (try dsimp only at hSw); go_simp; (try with_reducible rfl); done)
      try simp only [Act.put, List.setIfInBounds_toArray, List.set_cons_zero, List.set_cons_succ]
      refine wpAnyH_take (i := 7) (oi := ?_) (v := ?_) ?_ (by kernel_rfl) (by kernel_rfl) (by kernel_rfl) ?_ ?_ (by assumption) ?_
      rotate_left 2
      · simp only [List.getElem?_toArray, List.getElem?_cons_succ, List.getElem?_cons_zero]; rfl
      · exact fun _ _ _ h => h
      · first
          | (refine Or.inr ⟨?_, ?_⟩ <;> rfl)
          | (refine Or.inl ⟨?_, ?_⟩; · rfl
             intro w hSw; (try dsimp only at hSw); go_simp; (try with_reducible rfl); done)
      try simp only [Act.put, List.setIfInBounds_toArray, List.set_cons_zero, List.set_cons_succ]
      refine wpAnyH_take (i := 8) (oi := ?_) (v := ?_) ?_ (by kernel_rfl) (by kernel_rfl) (by kernel_rfl) ?_ ?_ (by assumption) ?_
      rotate_left 2
      · simp only [List.getElem?_toArray, List.getElem?_cons_succ, List.getElem?_cons_zero]; rfl
      · exact fun _ _ _ h => h
      · first
          | (refine Or.inr ⟨?_, ?_⟩ <;> rfl)
          | (refine Or.inl ⟨?_, ?_⟩; · rfl
             intro w hSw; (try dsimp only at hSw); go_simp; (try with_reducible rfl); done)
      try simp only [Act.put, List.setIfInBounds_toArray, List.set_cons_zero, List.set_cons_succ]
      refine wpAnyH_take (i := 9) (oi := ?_) (v := ?_) ?_ (by kernel_rfl) (by kernel_rfl) (by kernel_rfl) ?_ ?_ (by assumption) ?_
      rotate_left 2
      · simp only [List.getElem?_toArray, List.getElem?_cons_succ, List.getElem?_cons_zero]; rfl
      · exact fun _ _ _ h => h
      · first
          | (refine Or.inr ⟨?_, ?_⟩ <;> rfl)
          | (refine Or.inl ⟨?_, ?_⟩; · rfl
             intro w hSw; (try dsimp only at hSw); go_simp; (try with_reducible rfl); done)
      try simp only [Act.put, List.setIfInBounds_toArray, List.set_cons_zero, List.set_cons_succ]
      refine wpAnyH_take (i := 10) (oi := ?_) (v := ?_) ?_ (by kernel_rfl) (by kernel_rfl) (by kernel_rfl) ?_ ?_ (by assumption) ?_
      rotate_left 2
      · simp only [List.getElem?_toArray, List.getElem?_cons_succ, List.getElem?_cons_zero]; rfl
      · exact fun _ _ _ h => h
      · first
          | (refine Or.inr ⟨?_, ?_⟩ <;> rfl)
          | (refine Or.inl ⟨?_, ?_⟩; · rfl
             intro w hSw; (try dsimp only at hSw); go_simp; (try with_reducible rfl); done)
      try simp only [Act.put, List.setIfInBounds_toArray, List.set_cons_zero, List.set_cons_succ]
      refine wpAnyH_take (i := 11) (oi := ?_) (v := ?_) ?_ (by kernel_rfl) (by kernel_rfl) (by kernel_rfl) ?_ ?_ (by assumption) ?_
      rotate_left 2
      · simp only [List.getElem?_toArray, List.getElem?_cons_succ, List.getElem?_cons_zero]; rfl
      · exact fun _ _ _ h => h
      · first
          | (refine Or.inr ⟨?_, ?_⟩ <;> rfl)
          | (refine Or.inl ⟨?_, ?_⟩; · rfl
             intro w hSw; (try dsimp only at hSw); go_simp; (try with_reducible rfl); done)
      try simp only [Act.put, List.setIfInBounds_toArray, List.set_cons_zero, List.set_cons_succ]
      refine wpAnyH_take (i := 12) (oi := ?_) (v := ?_) ?_ (by kernel_rfl) (by kernel_rfl) (by kernel_rfl) ?_ ?_ (by assumption) ?_
      rotate_left 2
      · simp only [List.getElem?_toArray, List.getElem?_cons_succ, List.getElem?_cons_zero]; rfl
      · exact fun _ _ _ h => h
      · first
          | (refine Or.inr ⟨?_, ?_⟩ <;> rfl)
          | (refine Or.inl ⟨?_, ?_⟩; · rfl
             intro w hSw; (try dsimp only at hSw); go_simp; (try with_reducible rfl); done)
      try simp only [Act.put, List.setIfInBounds_toArray, List.set_cons_zero, List.set_cons_succ]
      refine wpAnyH_take (i := 13) (oi := ?_) (v := ?_) ?_ (by kernel_rfl) (by kernel_rfl) (by kernel_rfl) ?_ ?_ (by assumption) ?_
      rotate_left 2
      · simp only [List.getElem?_toArray, List.getElem?_cons_succ, List.getElem?_cons_zero]; rfl
      · exact fun _ _ _ h => h
      · first
          | (refine Or.inr ⟨?_, ?_⟩ <;> rfl)
          | (refine Or.inl ⟨?_, ?_⟩; · rfl
             intro w hSw; (try dsimp only at hSw); go_simp; (try with_reducible rfl); done)
      try simp only [Act.put, List.setIfInBounds_toArray, List.set_cons_zero, List.set_cons_succ]
      refine wpAnyH_ready (rs := [1]) (by kernel_rfl) (by simp) ?_
      refine AllReadyH.cons (o := ?_) ?_ (fun K hK => ?_) AllReadyH.nil
      rotate_left 1
      · simp only [List.getElem?_toArray, List.getElem?_cons_succ, List.getElem?_cons_zero]; rfl
      go_simp
      go_at_call 43
      go_must (refine Calls.mono (HSU.out _ T1.out) ?_)
      rintro e wa ⟨rfl, rfl⟩
      refine hK.out _ _ ?_ (fun hHeld => ?_)
      · try dsimp only
        exact HMV.out _ HO.out
      clear hK K
      try simp only [Act.put, List.setIfInBounds_toArray, List.set_cons_zero, List.set_cons_succ]
      refine wpAnyH_take (i := 14) (oi := ?_) (v := ?_) ?_ (by kernel_rfl) (by kernel_rfl) (by kernel_rfl) ?_ ?_ (by assumption) ?_
      rotate_left 2
      · simp only [List.getElem?_toArray, List.getElem?_cons_succ, List.getElem?_cons_zero]; rfl
      · exact fun _ _ _ h => h
      · first
          | (refine Or.inr ⟨?_, ?_⟩ <;> rfl)
          | (refine Or.inl ⟨?_, ?_⟩; · rfl
             intro w hSw; (try dsimp only at hSw); go_simp; (try with_reducible rfl); done)
      try simp only [Act.put, List.setIfInBounds_toArray, List.set_cons_zero, List.set_cons_succ]
      refine wpAnyH_take (i := 15) (oi := ?_) (v := ?_) ?_ (by kernel_rfl) (by kernel_rfl) (by kernel_rfl) ?_ ?_ (by assumption) ?_
      rotate_left 2
      · simp only [List.getElem?_toArray, List.getElem?_cons_succ, List.getElem?_cons_zero]; rfl
      · exact fun _ _ _ h => h
      · first
          | (refine Or.inr ⟨?_, ?_⟩ <;> rfl)
          | (refine Or.inl ⟨?_, ?_⟩; · rfl
             intro w hSw; (try dsimp only at hSw); go_simp; (try with_reducible rfl); done)
      try simp only [Act.put, List.setIfInBounds_toArray, List.set_cons_zero, List.set_cons_succ]
      cases p
      · refine wpAnyH_take (i := 16) (oi := ?_) (v := ?_) ?_ (by kernel_rfl) (by kernel_rfl) (by kernel_rfl) ?_ ?_ (by assumption) ?_
        rotate_left 2
        · simp only [List.getElem?_toArray, List.getElem?_cons_succ, List.getElem?_cons_zero]; rfl
        · exact fun _ _ _ h => h
        · first
            | (refine Or.inr ⟨?_, ?_⟩ <;> rfl)
            | (refine Or.inl ⟨?_, ?_⟩; · rfl
               intro w hSw; (try dsimp only at hSw); go_simp; (try with_reducible rfl); done)
        try simp only [Act.put, List.setIfInBounds_toArray, List.set_cons_zero, List.set_cons_succ]
        refine wpAnyH_take (i := 17) (oi := ?_) (v := ?_) ?_ (by kernel_rfl) (by kernel_rfl) (by kernel_rfl) ?_ ?_ (by assumption) ?_
        rotate_left 2
        · simp only [List.getElem?_toArray, List.getElem?_cons_succ, List.getElem?_cons_zero]; rfl
        · exact fun _ _ _ h => h
        · first
            | (refine Or.inr ⟨?_, ?_⟩ <;> rfl)
            | (refine Or.inl ⟨?_, ?_⟩; · rfl
               intro w hSw; (try dsimp only at hSw); go_simp; (try with_reducible rfl); done)
        try simp only [Act.put, List.setIfInBounds_toArray, List.set_cons_zero, List.set_cons_succ]
        refine wpAnyH_take (i := 18) (oi := ?_) (v := ?_) ?_ (by kernel_rfl) (by kernel_rfl) (by kernel_rfl) ?_ ?_ (by assumption) ?_
        rotate_left 2
        · simp only [List.getElem?_toArray, List.getElem?_cons_succ, List.getElem?_cons_zero]; rfl
        · exact fun _ _ _ h => h
        · first
            | (refine Or.inr ⟨?_, ?_⟩ <;> rfl)
            | (refine Or.inl ⟨?_, ?_⟩; · rfl
               intro w hSw; (try dsimp only at hSw); go_simp; (try with_reducible rfl); done)
        try simp only [Act.put, List.setIfInBounds_toArray, List.set_cons_zero, List.set_cons_succ]
        refine wpAnyH_take (i := 19) (oi := ?_) (v := ?_) ?_ (by kernel_rfl) (by kernel_rfl) (by kernel_rfl) ?_ ?_ (by assumption) ?_
        rotate_left 2
        · simp only [List.getElem?_toArray, List.getElem?_cons_succ, List.getElem?_cons_zero]; rfl
        · exact fun _ _ _ h => h
        · first
            | (refine Or.inr ⟨?_, ?_⟩ <;> rfl)
            | (refine Or.inl ⟨?_, ?_⟩; · rfl
               intro w hSw; (try dsimp only at hSw); go_simp; (try with_reducible rfl); done)
        try simp only [Act.put, List.setIfInBounds_toArray, List.set_cons_zero, List.set_cons_succ]
        refine wpAnyH_take (i := 20) (oi := ?_) (v := ?_) ?_ (by kernel_rfl) (by kernel_rfl) (by kernel_rfl) ?_ ?_ (by assumption) ?_
        rotate_left 2
        · simp only [List.getElem?_toArray, List.getElem?_cons_succ, List.getElem?_cons_zero]; rfl
        · exact fun _ _ _ h => h
        · first
            | (refine Or.inr ⟨?_, ?_⟩ <;> rfl)
            | (refine Or.inl ⟨?_, ?_⟩; · rfl
               intro w hSw; (try dsimp only at hSw); go_simp; (try with_reducible rfl); done)
        try simp only [Act.put, List.setIfInBounds_toArray, List.set_cons_zero, List.set_cons_succ]
        refine wpAnyH_take (i := 21) (oi := ?_) (v := ?_) ?_ (by kernel_rfl) (by kernel_rfl) (by kernel_rfl) ?_ ?_ (by assumption) ?_
        rotate_left 2
        · simp only [List.getElem?_toArray, List.getElem?_cons_succ, List.getElem?_cons_zero]; rfl
        · exact fun _ _ _ h => h
        · first
            | (refine Or.inr ⟨?_, ?_⟩ <;> rfl)
            | (refine Or.inl ⟨?_, ?_⟩; · rfl
               intro w hSw; (try dsimp only at hSw); go_simp; (try with_reducible rfl); done)
        try simp only [Act.put, List.setIfInBounds_toArray, List.set_cons_zero, List.set_cons_succ]
        refine wpAnyH_take (i := 22) (oi := ?_) (v := ?_) ?_ (by kernel_rfl) (by kernel_rfl) (by kernel_rfl) ?_ ?_ (by assumption) ?_
        rotate_left 2
        · simp only [List.getElem?_toArray, List.getElem?_cons_succ, List.getElem?_cons_zero]; rfl
        · exact fun _ _ _ h => h
        · first
            | (refine Or.inr ⟨?_, ?_⟩ <;> rfl)
            | (refine Or.inl ⟨?_, ?_⟩; · rfl
               intro w hSw; (try dsimp only at hSw); go_simp; (try with_reducible rfl); done)
        try simp only [Act.put, List.setIfInBounds_toArray, List.set_cons_zero, List.set_cons_succ]
        refine wpAnyH_take (i := 23) (oi := ?_) (v := ?_) ?_ (by kernel_rfl) (by kernel_rfl) (by kernel_rfl) ?_ ?_ (by assumption) ?_
        rotate_left 2
        · simp only [List.getElem?_toArray, List.getElem?_cons_succ, List.getElem?_cons_zero]; rfl
        · exact fun _ _ _ h => h
        · first
            | (refine Or.inr ⟨?_, ?_⟩ <;> rfl)
            | (refine Or.inl ⟨?_, ?_⟩; · rfl
               intro w hSw; (try dsimp only at hSw); go_simp; (try with_reducible rfl); done)
        try simp only [Act.put, List.setIfInBounds_toArray, List.set_cons_zero, List.set_cons_succ]
        refine wpAnyH_take (i := 24) (oi := ?_) (v := ?_) ?_ (by kernel_rfl) (by kernel_rfl) (by kernel_rfl) ?_ ?_ (by assumption) ?_
        rotate_left 2
        · simp only [List.getElem?_toArray, List.getElem?_cons_succ, List.getElem?_cons_zero]; rfl
        · exact fun _ _ _ h => h
        · first
            | (refine Or.inr ⟨?_, ?_⟩ <;> rfl)
            | (refine Or.inl ⟨?_, ?_⟩; · rfl
               intro w hSw; (try dsimp only at hSw); go_simp; (try with_reducible rfl); done)
        try simp only [Act.put, List.setIfInBounds_toArray, List.set_cons_zero, List.set_cons_succ]
        refine wpAnyH_take (i := 25) (oi := ?_) (v := ?_) ?_ (by kernel_rfl) (by kernel_rfl) (by kernel_rfl) ?_ ?_ (by assumption) ?_
        rotate_left 2
        · simp only [List.getElem?_toArray, List.getElem?_cons_succ, List.getElem?_cons_zero]; rfl
        · exact fun _ _ _ h => h
        · first
            | (refine Or.inr ⟨?_, ?_⟩ <;> rfl)
            | (refine Or.inl ⟨?_, ?_⟩; · rfl
               intro w hSw; (try dsimp only at hSw); go_simp; (try with_reducible rfl); done)
        try simp only [Act.put, List.setIfInBounds_toArray, List.set_cons_zero, List.set_cons_succ]
        refine wpAnyH_take (i := 26) (oi := ?_) (v := ?_) ?_ (by kernel_rfl) (by kernel_rfl) (by kernel_rfl) ?_ ?_ (by assumption) ?_
        rotate_left 2
        · simp only [List.getElem?_toArray, List.getElem?_cons_succ, List.getElem?_cons_zero]; rfl
        · exact fun _ _ _ h => h
        · first
            | (refine Or.inr ⟨?_, ?_⟩ <;> rfl)
            | (refine Or.inl ⟨?_, ?_⟩; · rfl
               intro w hSw; (try dsimp only at hSw); go_simp; (try with_reducible rfl); done)
        try simp only [Act.put, List.setIfInBounds_toArray, List.set_cons_zero, List.set_cons_succ]
        refine wpAnyH_take (i := 27) (oi := ?_) (v := ?_) ?_ (by kernel_rfl) (by kernel_rfl) (by kernel_rfl) ?_ ?_ (by assumption) ?_
        rotate_left 2
        · simp only [List.getElem?_toArray, List.getElem?_cons_succ, List.getElem?_cons_zero]; rfl
        · exact fun _ _ _ h => h
        · first
            | (refine Or.inr ⟨?_, ?_⟩ <;> rfl)
            | (refine Or.inl ⟨?_, ?_⟩; · rfl
               intro w hSw; (try dsimp only at hSw); go_simp; (try with_reducible rfl); done)
        try simp only [Act.put, List.setIfInBounds_toArray, List.set_cons_zero, List.set_cons_succ]
        refine wpAnyH_take (i := 28) (oi := ?_) (v := ?_) ?_ (by kernel_rfl) (by kernel_rfl) (by kernel_rfl) ?_ ?_ (by assumption) ?_
        rotate_left 2
        · simp only [List.getElem?_toArray, List.getElem?_cons_succ, List.getElem?_cons_zero]; rfl
        · exact fun _ _ _ h => h
        · first
            | (refine Or.inr ⟨?_, ?_⟩ <;> rfl)
            | (refine Or.inl ⟨?_, ?_⟩; · rfl
               intro w hSw; (try dsimp only at hSw); go_simp; (try with_reducible rfl); done)
        try simp only [Act.put, List.setIfInBounds_toArray, List.set_cons_zero, List.set_cons_succ]
        refine wpAnyH_ready (rs := [29]) (by kernel_rfl) (by simp) ?_
        refine AllReadyH.cons (o := ?_) ?_ (fun K hK => ?_) AllReadyH.nil
        rotate_left 1
        · simp only [List.getElem?_toArray, List.getElem?_cons_succ, List.getElem?_cons_zero]; rfl
        go_simp
        go_at_call 34
        go_must (refine Calls.mono (HTX.out _ HO.out) ?_)
        rintro e wd ⟨rfl, hb11⟩
        have hb9 := hb11
        (try replace T1 := Lib.hid (Own.below T1.out hb9 (Own.lt T1.out)))
        (try replace T2 := Lib.hid (Own.below T2.out hb9 (Own.lt T2.out)))
        (try replace HX := Lib.hid (Own.below HX.out hb9 (Own.lt HX.out)))
        replace HO := Lib.hid (Own.below HO.out hb9 (Own.lt HO.out))
        replace HB := Lib.hid (HB.out.trans (Below.mono hb9 HB.out.size))
        clear hb9
        clear hb11
        refine hK.out _ _ ?_ (fun hHeld => ?_)
        · try dsimp only
          exact HMV.out _ HO.out
        clear hK K
        try simp only [Act.put, List.setIfInBounds_toArray, List.set_cons_zero, List.set_cons_succ]
        refine wpAnyH_ready (rs := [30]) (by kernel_rfl) (by simp) ?_
        refine AllReadyH.cons (o := ?_) ?_ (fun K hK => ?_) AllReadyH.nil
        rotate_left 1
        · simp only [List.getElem?_toArray, List.getElem?_cons_succ, List.getElem?_cons_zero]; rfl
        go_simp
        go_at_call 44
        go_must (refine Calls.mono (HCO.out _) ?_)
        rintro e we ⟨rfl, rfl⟩
        refine hK.out _ _ ?_ (fun hHeld => ?_)
        · try dsimp only
          exact HMV.out _ HO.out
        clear hK K
        try simp only [Act.put, List.setIfInBounds_toArray, List.set_cons_zero, List.set_cons_succ]
        refine wpAnyH_take (i := 31) (oi := ?_) (v := ?_) ?_ (by kernel_rfl) (by kernel_rfl) (by kernel_rfl) ?_ ?_ (by assumption) ?_
        rotate_left 2
        · simp only [List.getElem?_toArray, List.getElem?_cons_succ, List.getElem?_cons_zero]; rfl
        · exact fun _ _ _ h => h
        · first
            | (refine Or.inr ⟨?_, ?_⟩ <;> rfl)
            | (refine Or.inl ⟨?_, ?_⟩; · rfl
               intro w hSw; (try dsimp only at hSw); go_simp; (try with_reducible rfl); done)
        try simp only [Act.put, List.setIfInBounds_toArray, List.set_cons_zero, List.set_cons_succ]
        refine wpAnyH_take (i := 32) (oi := ?_) (v := ?_) ?_ (by kernel_rfl) (by kernel_rfl) (by kernel_rfl) ?_ ?_ (by assumption) ?_
        rotate_left 2
        · simp only [List.getElem?_toArray, List.getElem?_cons_succ, List.getElem?_cons_zero]; rfl
        · exact fun _ _ _ h => h
        · first
            | (refine Or.inr ⟨?_, ?_⟩ <;> rfl)
            | (refine Or.inl ⟨?_, ?_⟩; · rfl
               intro w hSw; (try dsimp only at hSw); go_simp; (try with_reducible rfl); done)
        try simp only [Act.put, List.setIfInBounds_toArray, List.set_cons_zero, List.set_cons_succ]
        refine wpAnyH_take (i := 33) (oi := ?_) (v := ?_) ?_ (by kernel_rfl) (by kernel_rfl) (by kernel_rfl) ?_ ?_ (by assumption) ?_
        rotate_left 2
        · simp only [List.getElem?_toArray, List.getElem?_cons_succ, List.getElem?_cons_zero]; rfl
        · exact fun _ _ _ h => h
        · first
            | (refine Or.inr ⟨?_, ?_⟩ <;> rfl)
            | (refine Or.inl ⟨?_, ?_⟩; · rfl
               intro w hSw; (try dsimp only at hSw); go_simp; (try with_reducible rfl); done)
        try simp only [Act.put, List.setIfInBounds_toArray, List.set_cons_zero, List.set_cons_succ]
        refine wpAnyH_done (by kernel_rfl) ?_ _
        go_wp2_with fail
        go_ret
        exact ⟨rfl, HB.out⟩
      · have HTN : Hid (∀ W, Own W gx cx xs.length 2 61 (mvF (nM xs) (nL xs)) → Calls Try.prog 21 #[.slice (some ⟨gx, 0, none⟩) xs.length cx] W (TrR l W)) := fun W h => by
          obtain ⟨q1, q2⟩ := HPV.out rfl
          rw [← q1] at q2
          have q := trains_any gx 0 cx xs W (by omega) (OwnN.nt h)
          rw [q2] at q
          exact q
        refine wpAnyH_take (i := 16) (oi := ?_) (v := ?_) ?_ (by kernel_rfl) (by kernel_rfl) (by kernel_rfl) ?_ ?_ (by assumption) ?_
        rotate_left 2
        · simp only [List.getElem?_toArray, List.getElem?_cons_succ, List.getElem?_cons_zero]; rfl
        · exact fun _ _ _ h => h
        · first
            | (refine Or.inr ⟨?_, ?_⟩ <;> rfl)
            | (refine Or.inl ⟨?_, ?_⟩; · rfl
               intro w hSw; (try dsimp only at hSw); go_simp; (try with_reducible rfl); done)
        try simp only [Act.put, List.setIfInBounds_toArray, List.set_cons_zero, List.set_cons_succ]
        refine wpAnyH_take (i := 17) (oi := ?_) (v := ?_) ?_ (by kernel_rfl) (by kernel_rfl) (by kernel_rfl) ?_ ?_ (by assumption) ?_
        rotate_left 2
        · simp only [List.getElem?_toArray, List.getElem?_cons_succ, List.getElem?_cons_zero]; rfl
        · exact fun _ _ _ h => h
        · first
            | (refine Or.inr ⟨?_, ?_⟩ <;> rfl)
            | (refine Or.inl ⟨?_, ?_⟩; · rfl
               intro w hSw; (try dsimp only at hSw); go_simp; (try with_reducible rfl); done)
        try simp only [Act.put, List.setIfInBounds_toArray, List.set_cons_zero, List.set_cons_succ]
        refine wpAnyH_take (i := 18) (oi := ?_) (v := ?_) ?_ (by kernel_rfl) (by kernel_rfl) (by kernel_rfl) ?_ ?_ (by assumption) ?_
        rotate_left 2
        · simp only [List.getElem?_toArray, List.getElem?_cons_succ, List.getElem?_cons_zero]; rfl
        · exact fun _ _ _ h => h
        · first
            | (refine Or.inr ⟨?_, ?_⟩ <;> rfl)
            | (refine Or.inl ⟨?_, ?_⟩; · rfl
               intro w hSw; (try dsimp only at hSw); go_simp; (try with_reducible rfl); done)
        try simp only [Act.put, List.setIfInBounds_toArray, List.set_cons_zero, List.set_cons_succ]
        refine wpAnyH_take (i := 19) (oi := ?_) (v := ?_) ?_ (by kernel_rfl) (by kernel_rfl) (by kernel_rfl) ?_ ?_ (by assumption) ?_
        rotate_left 2
        · simp only [List.getElem?_toArray, List.getElem?_cons_succ, List.getElem?_cons_zero]; rfl
        · exact fun _ _ _ h => h
        · first
            | (refine Or.inr ⟨?_, ?_⟩ <;> rfl)
            | (refine Or.inl ⟨?_, ?_⟩; · rfl
               intro w hSw; (try dsimp only at hSw); go_simp; (try with_reducible rfl); done)
        try simp only [Act.put, List.setIfInBounds_toArray, List.set_cons_zero, List.set_cons_succ]
        refine wpAnyH_take (i := 21) (oi := ?_) (v := ?_) ?_ (by kernel_rfl) (by kernel_rfl) (by kernel_rfl) ?_ ?_ (by assumption) ?_
        rotate_left 2
        · simp only [List.getElem?_toArray, List.getElem?_cons_succ, List.getElem?_cons_zero]; rfl
        · exact fun _ _ _ h => h
        · first
            | (refine Or.inr ⟨?_, ?_⟩ <;> rfl)
            | (refine Or.inl ⟨?_, ?_⟩; · rfl
               intro w hSw; (try dsimp only at hSw); go_simp; (try with_reducible rfl); done)
        try simp only [Act.put, List.setIfInBounds_toArray, List.set_cons_zero, List.set_cons_succ]
        refine wpAnyH_ready (rs := [20]) (by kernel_rfl) (by simp) ?_
        refine AllReadyH.cons (o := ?_) ?_ (fun K hK => ?_) AllReadyH.nil
        rotate_left 1
        · simp only [List.getElem?_toArray, List.getElem?_cons_succ, List.getElem?_cons_zero]; rfl
        go_simp
        go_at_call 21
        go_must (refine Calls.mono (HTN.out _ HX.out) ?_)
        rintro e wb ⟨⟨g9, c9, rfl, _, ho9⟩, hb9a⟩
        have hb9 := hb9a
        (try replace T1 := Lib.hid (Own.below T1.out hb9 (Own.lt T1.out)))
        (try replace T2 := Lib.hid (Own.below T2.out hb9 (Own.lt T2.out)))
        (try replace HX := Lib.hid (Own.below HX.out hb9 (Own.lt HX.out)))
        replace HO := Lib.hid (Own.below HO.out hb9 (Own.lt HO.out))
        replace HB := Lib.hid (HB.out.trans (Below.mono hb9 HB.out.size))
        clear hb9
        have T2 : Hid (Own wb g9 c9 l.length 1 3 (fun i => .int .i64 (iF l i))) := ho9
        clear ho9 hb9a
        refine hK.out _ _ ?_ (fun hHeld => ?_)
        · try dsimp only
          exact HMV.out _ HO.out
        clear hK K
        try simp only [Act.put, List.setIfInBounds_toArray, List.set_cons_zero, List.set_cons_succ]
        refine wpAnyH_ready (rs := [22]) (by kernel_rfl) (by simp) ?_
        refine AllReadyH.cons (o := ?_) ?_ (fun K hK => ?_) AllReadyH.nil
        rotate_left 1
        · simp only [List.getElem?_toArray, List.getElem?_cons_succ, List.getElem?_cons_zero]; rfl
        go_simp
        go_at_call 15
        go_must (refine Calls.mono (smI (by omega) T2.out T1.out) ?_)
        rintro e wc ⟨rfl, hb10⟩
        have hb9 := hb10
        (try replace T1 := Lib.hid (Own.below T1.out hb9 (Own.lt T1.out)))
        (try replace T2 := Lib.hid (Own.below T2.out hb9 (Own.lt T2.out)))
        (try replace HX := Lib.hid (Own.below HX.out hb9 (Own.lt HX.out)))
        replace HO := Lib.hid (Own.below HO.out hb9 (Own.lt HO.out))
        replace HB := Lib.hid (HB.out.trans (Below.mono hb9 HB.out.size))
        clear hb9
        clear hb10
        refine hK.out _ _ ?_ (fun hHeld => ?_)
        · try dsimp only
          exact HMV.out _ HO.out
        clear hK K
        try simp only [Act.put, List.setIfInBounds_toArray, List.set_cons_zero, List.set_cons_succ]
        refine wpAnyH_take (i := 23) (oi := ?_) (v := ?_) ?_ (by kernel_rfl) (by kernel_rfl) (by kernel_rfl) ?_ ?_ (by assumption) ?_
        rotate_left 2
        · simp only [List.getElem?_toArray, List.getElem?_cons_succ, List.getElem?_cons_zero]; rfl
        · exact fun _ _ _ h => h
        · first
            | (refine Or.inr ⟨?_, ?_⟩ <;> rfl)
            | (refine Or.inl ⟨?_, ?_⟩; · rfl
               intro w hSw; (try dsimp only at hSw); go_simp; (try with_reducible rfl); done)
        try simp only [Act.put, List.setIfInBounds_toArray, List.set_cons_zero, List.set_cons_succ]
        refine wpAnyH_take (i := 24) (oi := ?_) (v := ?_) ?_ (by kernel_rfl) (by kernel_rfl) (by kernel_rfl) ?_ ?_ (by assumption) ?_
        rotate_left 2
        · simp only [List.getElem?_toArray, List.getElem?_cons_succ, List.getElem?_cons_zero]; rfl
        · exact fun _ _ _ h => h
        · first
            | (refine Or.inr ⟨?_, ?_⟩ <;> rfl)
            | (refine Or.inl ⟨?_, ?_⟩; · rfl
               intro w hSw; (try dsimp only at hSw); go_simp; (try with_reducible rfl); done)
        try simp only [Act.put, List.setIfInBounds_toArray, List.set_cons_zero, List.set_cons_succ]
        refine wpAnyH_take (i := 25) (oi := ?_) (v := ?_) ?_ (by kernel_rfl) (by kernel_rfl) (by kernel_rfl) ?_ ?_ (by assumption) ?_
        rotate_left 2
        · simp only [List.getElem?_toArray, List.getElem?_cons_succ, List.getElem?_cons_zero]; rfl
        · exact fun _ _ _ h => h
        · first
            | (refine Or.inr ⟨?_, ?_⟩ <;> rfl)
            | (refine Or.inl ⟨?_, ?_⟩; · rfl
               intro w hSw; (try dsimp only at hSw); go_simp; (try with_reducible rfl); done)
        try simp only [Act.put, List.setIfInBounds_toArray, List.set_cons_zero, List.set_cons_succ]
        refine wpAnyH_take (i := 26) (oi := ?_) (v := ?_) ?_ (by kernel_rfl) (by kernel_rfl) (by kernel_rfl) ?_ ?_ (by assumption) ?_
        rotate_left 2
        · simp only [List.getElem?_toArray, List.getElem?_cons_succ, List.getElem?_cons_zero]; rfl
        · exact fun _ _ _ h => h
        · first
            | (refine Or.inr ⟨?_, ?_⟩ <;> rfl)
            | (refine Or.inl ⟨?_, ?_⟩; · rfl
               intro w hSw; (try dsimp only at hSw); go_simp; (try with_reducible rfl); done)
        try simp only [Act.put, List.setIfInBounds_toArray, List.set_cons_zero, List.set_cons_succ]
        refine wpAnyH_take (i := 27) (oi := ?_) (v := ?_) ?_ (by kernel_rfl) (by kernel_rfl) (by kernel_rfl) ?_ ?_ (by assumption) ?_
        rotate_left 2
        · simp only [List.getElem?_toArray, List.getElem?_cons_succ, List.getElem?_cons_zero]; rfl
        · exact fun _ _ _ h => h
        · first
            | (refine Or.inr ⟨?_, ?_⟩ <;> rfl)
            | (refine Or.inl ⟨?_, ?_⟩; · rfl
               intro w hSw; (try dsimp only at hSw); go_simp; (try with_reducible rfl); done)
        try simp only [Act.put, List.setIfInBounds_toArray, List.set_cons_zero, List.set_cons_succ]
        refine wpAnyH_take (i := 28) (oi := ?_) (v := ?_) ?_ (by kernel_rfl) (by kernel_rfl) (by kernel_rfl) ?_ ?_ (by assumption) ?_
        rotate_left 2
        · simp only [List.getElem?_toArray, List.getElem?_cons_succ, List.getElem?_cons_zero]; rfl
        · exact fun _ _ _ h => h
        · first
            | (refine Or.inr ⟨?_, ?_⟩ <;> rfl)
            | (refine Or.inl ⟨?_, ?_⟩; · rfl
               intro w hSw; (try dsimp only at hSw); go_simp; (try with_reducible rfl); done)
        try simp only [Act.put, List.setIfInBounds_toArray, List.set_cons_zero, List.set_cons_succ]
        refine wpAnyH_ready (rs := [29]) (by kernel_rfl) (by simp) ?_
        refine AllReadyH.cons (o := ?_) ?_ (fun K hK => ?_) AllReadyH.nil
        rotate_left 1
        · simp only [List.getElem?_toArray, List.getElem?_cons_succ, List.getElem?_cons_zero]; rfl
        go_simp
        go_at_call 34
        go_must (refine Calls.mono (HTX.out _ HO.out) ?_)
        rintro e wd ⟨rfl, hb11⟩
        have hb9 := hb11
        (try replace T1 := Lib.hid (Own.below T1.out hb9 (Own.lt T1.out)))
        (try replace T2 := Lib.hid (Own.below T2.out hb9 (Own.lt T2.out)))
        (try replace HX := Lib.hid (Own.below HX.out hb9 (Own.lt HX.out)))
        replace HO := Lib.hid (Own.below HO.out hb9 (Own.lt HO.out))
        replace HB := Lib.hid (HB.out.trans (Below.mono hb9 HB.out.size))
        clear hb9
        clear hb11
        refine hK.out _ _ ?_ (fun hHeld => ?_)
        · try dsimp only
          exact HMV.out _ HO.out
        clear hK K
        try simp only [Act.put, List.setIfInBounds_toArray, List.set_cons_zero, List.set_cons_succ]
        refine wpAnyH_ready (rs := [30]) (by kernel_rfl) (by simp) ?_
        refine AllReadyH.cons (o := ?_) ?_ (fun K hK => ?_) AllReadyH.nil
        rotate_left 1
        · simp only [List.getElem?_toArray, List.getElem?_cons_succ, List.getElem?_cons_zero]; rfl
        go_simp
        go_at_call 44
        go_must (refine Calls.mono (HCO.out _) ?_)
        rintro e we ⟨rfl, rfl⟩
        refine hK.out _ _ ?_ (fun hHeld => ?_)
        · try dsimp only
          exact HMV.out _ HO.out
        clear hK K
        try simp only [Act.put, List.setIfInBounds_toArray, List.set_cons_zero, List.set_cons_succ]
        refine wpAnyH_take (i := 31) (oi := ?_) (v := ?_) ?_ (by kernel_rfl) (by kernel_rfl) (by kernel_rfl) ?_ ?_ (by assumption) ?_
        rotate_left 2
        · simp only [List.getElem?_toArray, List.getElem?_cons_succ, List.getElem?_cons_zero]; rfl
        · exact fun _ _ _ h => h
        · first
            | (refine Or.inr ⟨?_, ?_⟩ <;> rfl)
            | (refine Or.inl ⟨?_, ?_⟩; · rfl
               intro w hSw; (try dsimp only at hSw); go_simp; (try with_reducible rfl); done)
        try simp only [Act.put, List.setIfInBounds_toArray, List.set_cons_zero, List.set_cons_succ]
        refine wpAnyH_take (i := 32) (oi := ?_) (v := ?_) ?_ (by kernel_rfl) (by kernel_rfl) (by kernel_rfl) ?_ ?_ (by assumption) ?_
        rotate_left 2
        · simp only [List.getElem?_toArray, List.getElem?_cons_succ, List.getElem?_cons_zero]; rfl
        · exact fun _ _ _ h => h
        · first
            | (refine Or.inr ⟨?_, ?_⟩ <;> rfl)
            | (refine Or.inl ⟨?_, ?_⟩; · rfl
               intro w hSw; (try dsimp only at hSw); go_simp; (try with_reducible rfl); done)
        try simp only [Act.put, List.setIfInBounds_toArray, List.set_cons_zero, List.set_cons_succ]
        refine wpAnyH_take (i := 33) (oi := ?_) (v := ?_) ?_ (by kernel_rfl) (by kernel_rfl) (by kernel_rfl) ?_ ?_ (by assumption) ?_
        rotate_left 2
        · simp only [List.getElem?_toArray, List.getElem?_cons_succ, List.getElem?_cons_zero]; rfl
        · exact fun _ _ _ h => h
        · first
            | (refine Or.inr ⟨?_, ?_⟩ <;> rfl)
            | (refine Or.inl ⟨?_, ?_⟩; · rfl
               intro w hSw; (try dsimp only at hSw); go_simp; (try with_reducible rfl); done)
        try simp only [Act.put, List.setIfInBounds_toArray, List.set_cons_zero, List.set_cons_succ]
        refine wpAnyH_done (by kernel_rfl) ?_ _
        go_wp2_with fail
        go_ret
        exact ⟨rfl, HB.out⟩
end Go.Proofs.Ytokddeoliieofaa
