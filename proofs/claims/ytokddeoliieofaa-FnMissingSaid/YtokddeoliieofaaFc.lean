/-
  BlockRepair of the reference.
-/
import Derived.Test.YtokddeoliieofaaFb
namespace Go.Proofs.Ytokddeoliieofaa
open Go.RowKit

set_option linter.unusedSimpArgs false in
set_option maxRecDepth 100000 in
set_option maxHeartbeats 4000000 in
theorem specRepair_any (t : ByteArray) (w : World) (ht : t.size ≤ 1000) :
    Calls Try.prog 88 #[.string t] w (TxR (repL t) w) := by
  have HO0 : Hid (BpI w (w.alloc (.cells #[] 9)) w.heap.size 0 []) := ⟨own_empty _ _ _ _, Nat.le_refl _, below_all _ _⟩
  go_enter Try.func88, Try.ntmps88
  go_wp2_with fail
  by_cases h30 : 30 ≤ t.size
  · have hlt : ¬ (t.size : Int) < 30 := by omega
    have hl0 : (0 : Int) ≤ (t.size : Int) := by omega
    go_loopw [3, 5, 6, 7] (fun o i _ _ wr => o = .slice (some ⟨w.heap.size, 0, none⟩) 0 0 ∧ i = .int .i64 0 ∧ Hid (BpI w wr w.heap.size 0 [])) (fun _ _ _ _ _ => 0)
    case atStart => exact ⟨rfl, rfl, HO0⟩
    case round =>
      obtain ⟨rfl, rfl, HI⟩ := hrel
      go_wp2_with fail
      go_ret
      have e : repL t = [] := if_neg (by omega)
      exact ⟨⟨w.heap.size, 0, by rw [e]; rfl, Nat.le_refl _, by rw [e]; exact HI.out.ow⟩, HI.out.bl⟩
  have hlt : (t.size : Int) < 30 := by omega
  have HV : Hid (repL t = repF t (7 * (t.size + 1))) := if_pos (by omega)
  go_loopw [3, 5, 6, 7] (fun o i _ _ wr => ∃ (p g cap : Nat), p ≤ t.size + 1 ∧ i = .int .i64 p ∧ o = .slice (some ⟨g, 0, none⟩) (repF t (7 * p)).length cap ∧ Hid (BpI w wr g cap (repF t (7 * p)))) (fun _ i _ _ _ => t.size + 1 - (intOf i).toNat)
  case atStart => exact ⟨0, w.heap.size, 0, Nat.zero_le _, rfl, rfl, HO0⟩
  case round =>
    obtain ⟨p, g, cap, hp, rfl, rfl, HI⟩ := hrel
    by_cases hpl : p < t.size + 1
    · have hpi : (p : Int) ≤ (t.size : Int) := by omega
      go_wp2_with fail
      go_loopw [3, 6, 7] (fun o i _ wr => ∃ (k g cap : Nat), k ≤ 7 ∧ i = .int .i64 k ∧ o = .slice (some ⟨g, 0, none⟩) (repF t (7 * p + k)).length cap ∧ Hid (BpI w wr g cap (repF t (7 * p + k)))) (fun _ i _ _ => 7 - (intOf i).toNat)
      case atStart => exact ⟨0, g, cap, Nat.zero_le _, rfl, rfl, HI⟩
      case round =>
        obtain ⟨k, g2, c2, hk, rfl, rfl, HI2⟩ := hrel
        by_cases hkl : k < 7
        · have hki : (k : Int) < 7 := by omega
          have HF : Hid (repF t (7 * p + (k + 1)) = if (lgB (insT t p k) && !hsB (repF t (7 * p + k)) (insT t p k)) = true then repF t (7 * p + k) ++ [insT t p k] else repF t (7 * p + k)) := by
            show _ = _
            rw [show 7 * p + (k + 1) = (7 * p + k) + 1 by omega]
            simp only [repF]
            rw [show (7 * p + k) / 7 = p by omega, show (7 * p + k) % 7 = k by omega]
          have hfl := repF_len t (7 * p + k)
          go_wp2_with fail
          have hw1 : IntKind.i64.wrap ((k : Int) + 1) = (k : Int) + 1 := IntWalk.i64_in _ (by omega)
          have hw2 : ((k : Int) + 1).toNat = k + 1 := by omega
          have hw3 : (0 : Int) ≤ (k : Int) + 1 := by omega
          have hw4 : (k : Int) ≤ (k : Int) + 1 := by omega
          have hw6 : (k : Int) + 1 ≤ 7 := by omega
          have hss1 : ¬ 9223372036854775807 < min p t.size + (min (k + 1) 7 - k) := by omega
          have hss2 : ¬ 9223372036854775807 < min p t.size + (min (k + 1) 7 - k) + (t.size - p) := by omega
          refine wp_region_held_drew (S := (fun _ => True)) (by kernel_rfl) trivial (fun hHeld => ?_)
          refine wpAnyH_take (i := 0) (oi := ?_) (v := ?_) ?_ (by kernel_rfl) (by kernel_rfl) (by kernel_rfl) ?_ ?_ (by assumption) ?_
          rotate_left 2
          · simp only [List.getElem?_toArray, List.getElem?_cons_succ, List.getElem?_cons_zero]; rfl
          · exact fun _ _ _ h => h
          · first
              | (refine Or.inr ⟨?_, ?_⟩ <;> rfl)
              | (refine Or.inl ⟨?_, ?_⟩; · rfl
                 intro w hSw; (try dsimp only at hSw); go_simp; (try with_reducible rfl); done)
          try simp only [Act.put, List.setIfInBounds_toArray, List.set_cons_zero, List.set_cons_succ]
          refine wpAnyH_take (i := 1) (oi := ?_) (v := ?_) ?_ (by kernel_rfl) (by kernel_rfl) (by kernel_rfl) ?_ ?_ (by assumption) ?_
          rotate_left 2
          · simp only [List.getElem?_toArray, List.getElem?_cons_succ, List.getElem?_cons_zero]; rfl
          · exact fun _ _ _ h => h
          · first
              | (refine Or.inr ⟨?_, ?_⟩ <;> rfl)
              | (refine Or.inl ⟨?_, ?_⟩; · rfl
                 intro w hSw; (try dsimp only at hSw); go_simp; (try with_reducible rfl); done)
          try simp only [Act.put, List.setIfInBounds_toArray, List.set_cons_zero, List.set_cons_succ]
          refine wpAnyH_take (i := 2) (oi := ?_) (v := ?_) ?_ (by kernel_rfl) (by kernel_rfl) (by kernel_rfl) ?_ ?_ (by assumption) ?_
          rotate_left 2
          · simp only [List.getElem?_toArray, List.getElem?_cons_succ, List.getElem?_cons_zero]; rfl
          · exact fun _ _ _ h => h
          · first
              | (refine Or.inr ⟨?_, ?_⟩ <;> rfl)
              | (refine Or.inl ⟨?_, ?_⟩; · rfl
                 intro w hSw; (try dsimp only at hSw); go_simp; (try with_reducible rfl); done)
          try simp only [Act.put, List.setIfInBounds_toArray, List.set_cons_zero, List.set_cons_succ]
          refine wpAnyH_take (i := 3) (oi := ?_) (v := ?_) ?_ (by kernel_rfl) (by kernel_rfl) (by kernel_rfl) ?_ ?_ (by assumption) ?_
          rotate_left 2
          · simp only [List.getElem?_toArray, List.getElem?_cons_succ, List.getElem?_cons_zero]; rfl
          · exact fun _ _ _ h => h
          · first
              | (refine Or.inr ⟨?_, ?_⟩ <;> rfl)
              | (refine Or.inl ⟨?_, ?_⟩; · rfl
                 intro w hSw; (try dsimp only at hSw); go_simp; (try with_reducible rfl); done)
          try simp only [Act.put, List.setIfInBounds_toArray, List.set_cons_zero, List.set_cons_succ]
          refine wpAnyH_take (i := 4) (oi := ?_) (v := ?_) ?_ (by kernel_rfl) (by kernel_rfl) (by kernel_rfl) ?_ ?_ (by assumption) ?_
          rotate_left 2
          · simp only [List.getElem?_toArray, List.getElem?_cons_succ, List.getElem?_cons_zero]; rfl
          · exact fun _ _ _ h => h
          · first
              | (refine Or.inr ⟨?_, ?_⟩ <;> rfl)
              | (refine Or.inl ⟨?_, ?_⟩; · rfl
                 intro w hSw; (try dsimp only at hSw); go_simp; (try with_reducible rfl); done)
          try simp only [Act.put, List.setIfInBounds_toArray, List.set_cons_zero, List.set_cons_succ]
          refine wpAnyH_take (i := 5) (oi := ?_) (v := ?_) ?_ (by kernel_rfl) (by kernel_rfl) (by kernel_rfl) ?_ ?_ (by assumption) ?_
          rotate_left 2
          · simp only [List.getElem?_toArray, List.getElem?_cons_succ, List.getElem?_cons_zero]; rfl
          · exact fun _ _ _ h => h
          · first
              | (refine Or.inr ⟨?_, ?_⟩ <;> rfl)
              | (refine Or.inl ⟨?_, ?_⟩; · rfl
                 intro w hSw; (try dsimp only at hSw); go_simp; (try with_reducible rfl); done)
          try simp only [Act.put, List.setIfInBounds_toArray, List.set_cons_zero, List.set_cons_succ]
          refine wpAnyH_take (i := 6) (oi := ?_) (v := ?_) ?_ (by kernel_rfl) (by kernel_rfl) (by kernel_rfl) ?_ ?_ (by assumption) ?_
          rotate_left 2
          · simp only [List.getElem?_toArray, List.getElem?_cons_succ, List.getElem?_cons_zero]; rfl
          · exact fun _ _ _ h => h
          · first
              | (refine Or.inr ⟨?_, ?_⟩ <;> rfl)
              | (refine Or.inl ⟨?_, ?_⟩; · rfl
                 intro w hSw; (try dsimp only at hSw); go_simp; (try with_reducible rfl); done)
          try simp only [Act.put, List.setIfInBounds_toArray, List.set_cons_zero, List.set_cons_succ]
          refine wpAnyH_take (i := 7) (oi := ?_) (v := ?_) ?_ (by kernel_rfl) (by kernel_rfl) (by kernel_rfl) ?_ ?_ (by assumption) ?_
          rotate_left 2
          · simp only [List.getElem?_toArray, List.getElem?_cons_succ, List.getElem?_cons_zero]; rfl
          · exact fun _ _ _ h => h
          · first
              | (refine Or.inr ⟨?_, ?_⟩ <;> rfl)
              | (refine Or.inl ⟨?_, ?_⟩; · rfl
                 intro w hSw; (try dsimp only at hSw); go_simp; (try with_reducible rfl); done)
          try simp only [Act.put, List.setIfInBounds_toArray, List.set_cons_zero, List.set_cons_succ]
          refine wpAnyH_take (i := 8) (oi := ?_) (v := ?_) ?_ (by kernel_rfl) (by kernel_rfl) (by kernel_rfl) ?_ ?_ (by assumption) ?_
          rotate_left 2
          · simp only [List.getElem?_toArray, List.getElem?_cons_succ, List.getElem?_cons_zero]; rfl
          · exact fun _ _ _ h => h
          · first
              | (refine Or.inr ⟨?_, ?_⟩ <;> rfl)
              | (refine Or.inl ⟨?_, ?_⟩; · rfl
                 intro w hSw; (try dsimp only at hSw); go_simp; (try with_reducible rfl); done)
          try simp only [Act.put, List.setIfInBounds_toArray, List.set_cons_zero, List.set_cons_succ]
          refine wpAnyH_take (i := 9) (oi := ?_) (v := ?_) ?_ (by kernel_rfl) (by kernel_rfl) (by kernel_rfl) ?_ ?_ (by assumption) ?_
          rotate_left 2
          · simp only [List.getElem?_toArray, List.getElem?_cons_succ, List.getElem?_cons_zero]; rfl
          · exact fun _ _ _ h => h
          · first
              | (refine Or.inr ⟨?_, ?_⟩ <;> rfl)
              | (refine Or.inl ⟨?_, ?_⟩; · rfl
                 intro w hSw; (try dsimp only at hSw); go_simp; (try with_reducible rfl); done)
          try simp only [Act.put, List.setIfInBounds_toArray, List.set_cons_zero, List.set_cons_succ]
          refine wpAnyH_take (i := 10) (oi := ?_) (v := ?_) ?_ (by kernel_rfl) (by kernel_rfl) (by kernel_rfl) ?_ ?_ (by assumption) ?_
          rotate_left 2
          · simp only [List.getElem?_toArray, List.getElem?_cons_succ, List.getElem?_cons_zero]; rfl
          · exact fun _ _ _ h => h
          · first
              | (refine Or.inr ⟨?_, ?_⟩ <;> rfl)
              | (refine Or.inl ⟨?_, ?_⟩; · rfl
                 intro w hSw; (try dsimp only at hSw); go_simp; (try with_reducible rfl); done)
          try simp only [Act.put, List.setIfInBounds_toArray, List.set_cons_zero, List.set_cons_succ]
          refine wpAnyH_take (i := 11) (oi := ?_) (v := ?_) ?_ (by kernel_rfl) (by kernel_rfl) (by kernel_rfl) ?_ ?_ (by assumption) ?_
          rotate_left 2
          · simp only [List.getElem?_toArray, List.getElem?_cons_succ, List.getElem?_cons_zero]; rfl
          · exact fun _ _ _ h => h
          · first
              | (refine Or.inr ⟨?_, ?_⟩ <;> rfl)
              | (refine Or.inl ⟨?_, ?_⟩; · rfl
                 intro w hSw; (try dsimp only at hSw); go_simp; (try with_reducible rfl); done)
          try simp only [Act.put, List.setIfInBounds_toArray, List.set_cons_zero, List.set_cons_succ]
          refine wpAnyH_take (i := 12) (oi := ?_) (v := ?_) ?_ (by kernel_rfl) (by kernel_rfl) (by kernel_rfl) ?_ ?_ (by assumption) ?_
          rotate_left 2
          · simp only [List.getElem?_toArray, List.getElem?_cons_succ, List.getElem?_cons_zero]; rfl
          · exact fun _ _ _ h => h
          · first
              | (refine Or.inr ⟨?_, ?_⟩ <;> rfl)
              | (refine Or.inl ⟨?_, ?_⟩; · rfl
                 intro w hSw; (try dsimp only at hSw); go_simp; (try with_reducible rfl); done)
          try simp only [Act.put, List.setIfInBounds_toArray, List.set_cons_zero, List.set_cons_succ]
          refine wpAnyH_take (i := 13) (oi := ?_) (v := ?_) ?_ (by kernel_rfl) (by kernel_rfl) (by kernel_rfl) ?_ ?_ (by assumption) ?_
          rotate_left 2
          · simp only [List.getElem?_toArray, List.getElem?_cons_succ, List.getElem?_cons_zero]; rfl
          · exact fun _ _ _ h => h
          · first
              | (refine Or.inr ⟨?_, ?_⟩ <;> rfl)
              | (refine Or.inl ⟨?_, ?_⟩; · rfl
                 intro w hSw; (try dsimp only at hSw); go_simp; (try with_reducible rfl); done)
          try simp only [Act.put, List.setIfInBounds_toArray, List.set_cons_zero, List.set_cons_succ]
          refine wpAnyH_done (by kernel_rfl) ?_ _
          obtain ⟨x, hx⟩ : ∃ x, x = insT t p k := ⟨_, rfl⟩
          have hx2 : t.extract 0 p ++ (⟨#[97, 99, 101, 102, 108, 111, 114]⟩ : ByteArray).extract k (k + 1) ++ t.extract p t.size = x := hx.symm
          rw [hx2]
          rw [← hx] at HF
          clear hw1 hw2 hw3 hw4 hw6 hss1 hss2 hx hx2
          replace HI2 : Hid (BpI w wr.drew g2 c2 (repF t (7 * p + k))) := HI2.out.drew
          clear hHeld
          generalize wr.drew = wr at *
          generalize repF t (7 * p + k) = l at *
          have HLG : Hid (∀ W, Calls Try.prog 75 #[.string x] W fun e w' => e = .returned (.bool (lgB x)) ∧ Below W.heap.size W w') := fun W => specLegal_any x W
          go_wp2_with fail
          refine (HLG.out _).mono ?_
          rintro e w3 ⟨rfl, hb3⟩
          replace HI2 := Lib.hid (HI2.out.keep hb3)
          clear hb3
          cases hlg : lgB x
          · have HF2 : Hid (repF t (7 * p + (k + 1)) = l) := by show _ = _; rw [HF.out, hlg]; simp
            clear hlg
            go_wp2_with fail
            go_roundw
            case rel => exact ⟨k + 1, g2, c2, by omega, by go_num, by rw [HF2.out], by rw [HF2.out]; exact HI2.out⟩
            case measure => simp [intOf]; omega
          have HHT := Lib.hid (l3Has_any g2 c2 l x _ (by omega) HI2.out.ow)
          go_wp2_with fail
          refine HHT.out.mono ?_
          rintro e w4 ⟨rfl, rfl⟩
          cases hhs : hsB l x
          · have HF2 : Hid (repF t (7 * p + (k + 1)) = l ++ [x]) := by show _ = _; rw [HF.out, hlg, hhs]; simp
            clear hlg hhs HHT
            go_wp2_with (at_builtin; refine wpList_pushV elStr rfl (.tmp 47) (.tmp 49) (by rfl) (f := fun q => .string (sF (l ++ [x]) q)) (Own.congr HI2.out.ow (fun q hq => by rw [sF_old (by omega)])) (by rfl) (by rfl) (by rw [sF_new]) rfl (by omega) (by omega) ?_; intro g' c' wa HA hgr hd; have HI3 : Hid (BpI w wa g' c' (l ++ [x])) := HI2.out.push HA hgr hd; clear HA hgr hd)
            go_roundw
            case rel => exact ⟨k + 1, g', c', by omega, by go_num, by rw [HF2.out]; simp, by rw [HF2.out]; exact HI3.out⟩
            case measure => simp [intOf]; omega
          · have HF2 : Hid (repF t (7 * p + (k + 1)) = l) := by show _ = _; rw [HF.out, hlg, hhs]; simp
            clear hlg hhs HHT
            go_wp2_with fail
            go_roundw
            case rel => exact ⟨k + 1, g2, c2, by omega, by go_num, by rw [HF2.out], by rw [HF2.out]; exact HI2.out⟩
            case measure => simp [intOf]; omega
        · obtain rfl : k = 7 := by omega
          go_wp2_with fail
          go_roundw
          case rel => exact ⟨p + 1, g2, c2, by omega, by go_num, rfl, HI2.out⟩
          case measure => simp [intOf]; omega
    · obtain rfl : p = t.size + 1 := by omega
      have hpi : ¬ ((t.size : Int) + 1 ≤ (t.size : Int)) := by omega
      go_wp2_with fail
      go_ret
      exact ⟨⟨g, cap, by rw [HV.out]; rfl, HI.out.gz, by rw [HV.out]; exact HI.out.ow⟩, HI.out.bl⟩
end Go.Proofs.Ytokddeoliieofaa
