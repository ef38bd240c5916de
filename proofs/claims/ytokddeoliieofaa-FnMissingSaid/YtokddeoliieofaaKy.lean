/-
  RegisterLate of the reference: the walk.
-/
import Derived.Test.YtokddeoliieofaaKx
namespace Go.Proofs.Ytokddeoliieofaa
open Go.RowKit

set_option linter.unusedSimpArgs false in
set_option maxRecDepth 100000 in
set_option maxHeartbeats 4000000 in
theorem specLate_any (b off c : Nat) (ns : List (Int × ByteArray)) (w : World) (hn : ns.length ≤ 33) (hc : NtC w b off ns) :
    Calls Try.prog 82 #[.slice (some ⟨b, off, none⟩) ns.length c, .int .i64 100] w (LaR w) := by
  have HC : Hid (∀ W, Below w.heap.size w W → NtC W b off ns) := fun W h => hc.old h hc.lt
  have HV : Hid (∀ W, Below w.heap.size w W → Calls Try.prog 67 #[.slice (some ⟨b, off, none⟩) ns.length c] W fun e w' => e = .returned (.bool (rgV ns)) ∧ W = w') := fun W h => specValid_any b off c ns W (by omega) (HC.out W h)
  have HVO : Hid (∀ W g cap (xs : List (Int × ByteArray)), OwnN W g cap xs → xs.length ≤ 33 → Calls Try.prog 67 #[.slice (some ⟨g, 0, none⟩) xs.length cap] W fun e w' => e = .returned (.bool (rgV xs)) ∧ W = w') := fun W g cap xs h hx => specValid_any g 0 cap xs W (by omega) h.nt
  have HIN : Hid (∀ W, Calls Try.prog 91 #[.int .i64 100, .int .i64 (-2000), .int .i64 2000] W fun e w' => e = .returned (.bool true) ∧ W = w') := fun W => l6In_any 100 (-2000) 2000 W
  have HI0 : Hid (LaI w (w.alloc (.cells #[] 61)) b off ns w.heap.size 0 []) := ⟨own_empty _ _ _ _, Nat.le_refl _, below_all _ _⟩
  clear hc
  go_enter Try.func82, Try.ntmps82
  go_wp2_with fail
  go_loopw [6, 7] (fun o i wr => ∃ k : Nat, k ≤ ns.length ∧ i = .int .i64 k ∧ ∃ g cap, ∃ xs : List (Int × ByteArray), o = .slice (some ⟨g, 0, none⟩) (List.length xs) cap ∧ List.length xs = k ∧ Hid (LaI w wr b off ns g cap xs)) (fun _ i _ => ns.length - (intOf i).toNat)
  case atStart => exact ⟨0, Nat.zero_le _, rfl, w.heap.size, 0, [], rfl, rfl, HI0⟩
  case round =>
    obtain ⟨k, hk, rfl, g, cap, xs, rfl, hxk, HI⟩ := hrel
    subst hxk
    have hxl : xs.length ≤ 33 := by omega
    have hgz := HI.out.gz
    have hbs := HI.out.bl.size
    by_cases hlt : xs.length < ns.length
    · cases hv : rgV ns
      · rw [hv] at HV
        have hne : ¬ (xs.length : Int) = (ns.length : Int) := by omega
        clear hv
        go_wp2_with fail
        refine (HV.out _ HI.out.bl).mono ?_
        rintro e w' ⟨rfl, rfl⟩
        go_wp2_with fail
        go_ret2
        exact ⟨wr.heap.size, 0, false, [], rfl, own_empty _ _ _ _, hbs, Nat.zero_le _, HI.out.bl.alloc hbs _⟩
      · have hmb := nM_bd hv xs.length hlt
        rw [hv] at HV
        clear hv
        have HCC : Hid (∀ W, Below w.heap.size w W → W.cell? ⟨b, off + xs.length * 2, none⟩ = some (.int .i64 (nM ns xs.length)) ∧ W.cell? ⟨b, off + xs.length * 2 + 1, none⟩ = some (.string (nL ns xs.length))) := fun W h => HC.out W h xs.length hlt
        generalize nM ns xs.length = x at *
        generalize nL ns xs.length = l at *
        go_wp2_with fail
        refine (HV.out _ HI.out.bl).mono ?_
        rintro e w' ⟨rfl, rfl⟩
        go_wp2_with fail
        refine (HIN.out _).mono ?_
        rintro e w' ⟨rfl, rfl⟩
        go_wp2_with fail
        have hwm : IntKind.i64.wrap (x + 100) = x + 100 := IntWalk.i64_in _ (by omega)
        have hk1 : (xs.length : Int) < (ns.length : Int) := by omega
        have HN : Hid (∀ j, j < 2 → [Value.int .i64 (x + 100), .string l][j]? = some (mvF (nM (xs ++ [(x + 100, l)])) (nL (xs ++ [(x + 100, l)])) (xs.length * 2 + j))) := ntF_new xs (x + 100, l)
        have HO : Hid (Own wr.drew g cap xs.length 2 61 (mvF (nM (xs ++ [(x + 100, l)])) (nL (xs ++ [(x + 100, l)])))) := Own.below (B := wr.heap.size) (OwnN.ext HI.out.ow (x + 100, l)) (Below.refl _ _).drew (Own.lt HI.out.ow)
        refine wp_region_held_drew (S := fun W => W.cell? ⟨b, off + xs.length * 2, none⟩ = some (.int .i64 x) ∧ W.cell? ⟨b, off + xs.length * 2 + 1, none⟩ = some (.string l)) (by kernel_rfl) (HCC.out _ HI.out.bl.drew) (fun hHeld => ?_)
        refine wpAnyH_take (i := 0) (oi := ?_) (v := ?_) ?_ (by kernel_rfl) (by kernel_rfl) (by kernel_rfl) ?_ ?_ (by assumption) ?_
        rotate_left 2
        · simp only [List.getElem?_toArray, List.getElem?_cons_succ, List.getElem?_cons_zero]; rfl
        · exact fun _ _ _ h => h
        · first
            | (refine Or.inr ⟨?_, ?_⟩ <;> rfl)
            | (refine Or.inl ⟨?_, ?_⟩; · rfl
               intro w hSw; (try dsimp only at hSw); go_simp; (try with_reducible rfl); done)
        try simp only [Act.put, List.setIfInBounds_toArray, List.set_cons_zero, List.set_cons_succ]
        refine wpAnyH_take (i := 1) (oi := ?_) (v := ?_) ?_ (by kernel_rfl) (by kernel_rfl) (by kernel_rfl) ?_ ?_ (by assumption) ?_
        rotate_left 2
        · simp only [List.getElem?_toArray, List.getElem?_cons_succ, List.getElem?_cons_zero]; rfl
        · exact fun _ _ _ h => h
        · first
            | (refine Or.inr ⟨?_, ?_⟩ <;> rfl)
            | (refine Or.inl ⟨?_, ?_⟩; · rfl
               intro w hSw; (try dsimp only at hSw); go_simp; (try with_reducible rfl); done)
        try simp only [Act.put, List.setIfInBounds_toArray, List.set_cons_zero, List.set_cons_succ]
        refine wpAnyH_take (i := 2) (oi := ?_) (v := ?_) ?_ (by kernel_rfl) (by kernel_rfl) (by kernel_rfl) ?_ ?_ (by assumption) ?_
        rotate_left 2
        · simp only [List.getElem?_toArray, List.getElem?_cons_succ, List.getElem?_cons_zero]; rfl
        · exact fun _ _ _ h => h
        · first
            | (refine Or.inr ⟨?_, ?_⟩ <;> rfl)
            | (refine Or.inl ⟨?_, ?_⟩; · rfl
               intro w hSw; (try dsimp only at hSw); go_simp; (try with_reducible rfl); done)
        try simp only [Act.put, List.setIfInBounds_toArray, List.set_cons_zero, List.set_cons_succ]
        refine wpAnyH_take (i := 3) (oi := ?_) (v := ?_) ?_ (by kernel_rfl) (by kernel_rfl) (by kernel_rfl) ?_ ?_ (by assumption) ?_
        rotate_left 2
        · simp only [List.getElem?_toArray, List.getElem?_cons_succ, List.getElem?_cons_zero]; rfl
        · exact fun _ _ _ h => h
        · first
            | (refine Or.inr ⟨?_, ?_⟩ <;> rfl)
            | (refine Or.inl ⟨?_, ?_⟩; · rfl
               intro w hSw; (try dsimp only at hSw); go_simp; (try with_reducible rfl); done)
        try simp only [Act.put, List.setIfInBounds_toArray, List.set_cons_zero, List.set_cons_succ]
        refine wpAnyH_take (i := 4) (oi := ?_) (v := ?_) ?_ (by kernel_rfl) (by kernel_rfl) (by kernel_rfl) ?_ ?_ (by assumption) ?_
        rotate_left 2
        · simp only [List.getElem?_toArray, List.getElem?_cons_succ, List.getElem?_cons_zero]; rfl
        · exact fun _ _ _ h => h
        · first
            | (refine Or.inr ⟨?_, ?_⟩ <;> rfl)
            | (refine Or.inl ⟨?_, ?_⟩; · rfl
               intro w hSw; (try dsimp only at hSw); go_simp; (try with_reducible rfl); done)
        try simp only [Act.put, List.setIfInBounds_toArray, List.set_cons_zero, List.set_cons_succ]
        refine wpAnyH_take (i := 5) (oi := ?_) (v := ?_) ?_ (by kernel_rfl) (by kernel_rfl) (by kernel_rfl) ?_ ?_ (by assumption) ?_
        rotate_left 2
        · simp only [List.getElem?_toArray, List.getElem?_cons_succ, List.getElem?_cons_zero]; rfl
        · exact fun _ _ _ h => h
        · first
            | (refine Or.inr ⟨?_, ?_⟩ <;> rfl)
            | (refine Or.inl ⟨?_, ?_⟩; · rfl
               intro w hSw; (try dsimp only at hSw); go_simp; (try with_reducible rfl); done)
        try simp only [Act.put, List.setIfInBounds_toArray, List.set_cons_zero, List.set_cons_succ]
        refine wpAnyH_take (i := 6) (oi := ?_) (v := ?_) ?_ (by kernel_rfl) (by kernel_rfl) (by kernel_rfl) ?_ ?_ (by assumption) ?_
        rotate_left 2
        · simp only [List.getElem?_toArray, List.getElem?_cons_succ, List.getElem?_cons_zero]; rfl
        · exact fun _ _ _ h => h
        · first
            | (refine Or.inr ⟨?_, ?_⟩ <;> rfl)
            | (refine Or.inl ⟨?_, ?_⟩; · rfl
               intro w hSw; (try dsimp only at hSw); go_simp; (try with_reducible rfl); done)
        try simp only [Act.put, List.setIfInBounds_toArray, List.set_cons_zero, List.set_cons_succ]
        refine wpAnyH_take (i := 7) (oi := ?_) (v := ?_) ?_ (by kernel_rfl) (by kernel_rfl) (by kernel_rfl) ?_ ?_ (by assumption) ?_
        rotate_left 2
        · simp only [List.getElem?_toArray, List.getElem?_cons_succ, List.getElem?_cons_zero]; rfl
        · exact fun _ _ _ h => h
        · first
            | (refine Or.inr ⟨?_, ?_⟩ <;> rfl)
            | (refine Or.inl ⟨?_, ?_⟩; · rfl
               intro w hSw; (try dsimp only at hSw); go_simp; (try with_reducible rfl); done)
        try simp only [Act.put, List.setIfInBounds_toArray, List.set_cons_zero, List.set_cons_succ]
        refine wpAnyH_take (i := 8) (oi := ?_) (v := ?_) ?_ (by kernel_rfl) (by kernel_rfl) (by kernel_rfl) ?_ ?_ (by assumption) ?_
        rotate_left 2
        · simp only [List.getElem?_toArray, List.getElem?_cons_succ, List.getElem?_cons_zero]; rfl
        · exact fun _ _ _ h => h
        · first
            | (refine Or.inr ⟨?_, ?_⟩ <;> rfl)
            | (refine Or.inl ⟨?_, ?_⟩; · rfl
               intro w hSw; (try dsimp only at hSw); go_simp; (try with_reducible rfl); done)
        try simp only [Act.put, List.setIfInBounds_toArray, List.set_cons_zero, List.set_cons_succ]
        refine wpAnyH_take (i := 9) (oi := ?_) (v := ?_) ?_ (by kernel_rfl) (by kernel_rfl) (by kernel_rfl) ?_ ?_ (by assumption) ?_
        rotate_left 2
        · simp only [List.getElem?_toArray, List.getElem?_cons_succ, List.getElem?_cons_zero]; rfl
        · exact fun _ _ _ h => h
        · first
            | (refine Or.inr ⟨?_, ?_⟩ <;> rfl)
            | (refine Or.inl ⟨?_, ?_⟩; · rfl
               intro w hSw; (try dsimp only at hSw); go_simp; (try with_reducible rfl); done)
        try simp only [Act.put, List.setIfInBounds_toArray, List.set_cons_zero, List.set_cons_succ]
        refine wpAnyH_take (i := 10) (oi := ?_) (v := ?_) ?_ (by kernel_rfl) (by kernel_rfl) (by kernel_rfl) ?_ ?_ (by assumption) ?_
        rotate_left 2
        · simp only [List.getElem?_toArray, List.getElem?_cons_succ, List.getElem?_cons_zero]; rfl
        · exact fun _ _ _ h => h
        · first
            | (refine Or.inr ⟨?_, ?_⟩ <;> rfl)
            | (refine Or.inl ⟨?_, ?_⟩; · rfl
               intro w hSw; (try dsimp only at hSw); go_simp; (try with_reducible rfl); done)
        try simp only [Act.put, List.setIfInBounds_toArray, List.set_cons_zero, List.set_cons_succ]
        refine wpAnyH_take (i := 11) (oi := ?_) (v := ?_) ?_ (by kernel_rfl) (by kernel_rfl) (by kernel_rfl) ?_ ?_ (by assumption) ?_
        rotate_left 2
        · simp only [List.getElem?_toArray, List.getElem?_cons_succ, List.getElem?_cons_zero]; rfl
        · exact fun _ _ _ h => h
        · first
            | (refine Or.inr ⟨?_, ?_⟩ <;> rfl)
            | (refine Or.inl ⟨?_, ?_⟩; · rfl
               intro w hSw; (try dsimp only at hSw); go_simp; (try with_reducible rfl); done)
        try simp only [Act.put, List.setIfInBounds_toArray, List.set_cons_zero, List.set_cons_succ]
        refine wpAnyH_take (i := 12) (oi := ?_) (v := ?_) ?_ (by kernel_rfl) (by kernel_rfl) (by kernel_rfl) ?_ ?_ (by assumption) ?_
        rotate_left 2
        · simp only [List.getElem?_toArray, List.getElem?_cons_succ, List.getElem?_cons_zero]; rfl
        · exact fun _ _ _ h => h
        · first
            | (refine Or.inr ⟨?_, ?_⟩ <;> rfl)
            | (refine Or.inl ⟨?_, ?_⟩; · rfl
               intro w hSw; (try dsimp only at hSw); go_simp; (try with_reducible rfl); done)
        try simp only [Act.put, List.setIfInBounds_toArray, List.set_cons_zero, List.set_cons_succ]
        refine wpAnyH_take (i := 13) (oi := ?_) (v := ?_) ?_ (by kernel_rfl) (by kernel_rfl) (by kernel_rfl) ?_ ?_ (by assumption) ?_
        rotate_left 2
        · simp only [List.getElem?_toArray, List.getElem?_cons_succ, List.getElem?_cons_zero]; rfl
        · exact fun _ _ _ h => h
        · first
            | (refine Or.inr ⟨?_, ?_⟩ <;> rfl)
            | (refine Or.inl ⟨?_, ?_⟩; · rfl
               intro w hSw; (try dsimp only at hSw); go_simp; (try with_reducible rfl); done)
        try simp only [Act.put, List.setIfInBounds_toArray, List.set_cons_zero, List.set_cons_succ]
        refine wpAnyH_ready (rs := [14]) (by kernel_rfl) (by simp) ?_
        refine AllReadyH.cons (o := ?_) ?_ (fun K hK => ?_) AllReadyH.nil
        rotate_left 1
        · simp only [List.getElem?_toArray, List.getElem?_cons_succ, List.getElem?_cons_zero]; rfl
        go_simp
        skip
        refine hK.out _ _ ?_ (fun hHeld => ?_)
        · try dsimp only
          exact HCC.out _ ((HI.out.bl.drew).alloc hbs _)
        clear hK K
        try simp only [Act.put, List.setIfInBounds_toArray, List.set_cons_zero, List.set_cons_succ]
        refine wpAnyH_ready (rs := [15]) (by kernel_rfl) (by simp) ?_
        refine AllReadyH.cons (o := ?_) ?_ (fun K hK => ?_) AllReadyH.nil
        rotate_left 1
        · simp only [List.getElem?_toArray, List.getElem?_cons_succ, List.getElem?_cons_zero]; rfl
        refine step_pushS (w := wr.drew) elMv rfl (.tmp 23) (.tmp 37) rfl HO.out rfl [.int .i64 (x + 100), .string l] rfl HN.out (fun _ _ => mvF_one _ _ _) (by unfold maxLen; omega) (by omega) ?_
        intro g' c' wa HA hgr hd
        have hd2 : (g' = g ∧ c' = cap) ∨ wr.heap.size ≤ g' := (by rcases hd with h | h
                                                                  · exact .inl h
                                                                  · right; have h2 : wr.heap.size < g' := h; omega)
        have HI2 : Hid (LaI w wa b off ns g' c' (xs ++ [(x + 100, l)])) := HI.out.drew.push HA hgr hd2
        obtain ⟨hm0, hm1⟩ := HCC.out _ HI2.out.bl
        clear HA hgr hd hd2
        refine hK.out _ _ ?_ (fun hHeld => ?_)
        · try dsimp only
          go_keep
        clear hK K
        try simp only [Act.put, List.setIfInBounds_toArray, List.set_cons_zero, List.set_cons_succ]
        refine wpAnyH_take (i := 16) (oi := ?_) (v := ?_) ?_ (by kernel_rfl) (by kernel_rfl) (by kernel_rfl) ?_ ?_ (by assumption) ?_
        rotate_left 2
        · simp only [List.getElem?_toArray, List.getElem?_cons_succ, List.getElem?_cons_zero]; rfl
        · exact fun _ _ _ h => h
        · first
            | (refine Or.inr ⟨?_, ?_⟩ <;> rfl)
            | (refine Or.inl ⟨?_, ?_⟩; · rfl
               intro w hSw; (try dsimp only at hSw); go_simp; (try with_reducible rfl); done)
        try simp only [Act.put, List.setIfInBounds_toArray, List.set_cons_zero, List.set_cons_succ]
        refine wpAnyH_done (by kernel_rfl) ?_ _
        have hlen : (xs ++ [(x + 100, l)]).length = xs.length + 1 := by simp
        go_wp2_with fail
        go_roundw
        case rel => exact ⟨xs.length + 1, by omega, by go_num, g', c', xs ++ [(x + 100, l)], by (rw [hlen]), hlen, HI2⟩
        case measure => simp [intOf]; omega
    · have hke := Lib.hid (show xs.length = ns.length by omega)
      have hke2 : (xs.length : Int) = (ns.length : Int) := by have := hke.out; omega
      have HVX := Lib.hid (HVO.out _ _ _ _ HI.out.ow hxl)
      cases hv2 : rgV xs
      · rw [hv2] at HVX
        go_wp2_with fail
        refine HVX.out.mono ?_
        rintro e w' ⟨rfl, rfl⟩
        go_wp2_with fail
        go_ret2
        exact ⟨wr.heap.size, 0, false, [], rfl, own_empty _ _ _ _, hbs, Nat.zero_le _, HI.out.bl.alloc hbs _⟩
      · rw [hv2] at HVX
        go_wp2_with fail
        refine HVX.out.mono ?_
        rintro e w' ⟨rfl, rfl⟩
        go_wp2_with fail
        go_ret2
        exact ⟨g, cap, true, xs, rfl, HI.out.ow, hgz, hxl, HI.out.bl⟩
end Go.Proofs.Ytokddeoliieofaa
