/-
  RegisterTrains of the reference.
-/
import Derived.Test.YtokddeoliieofaaKg
namespace Go.Proofs.Ytokddeoliieofaa
open Go.RowKit

/-- between two rounds of the reference's RegisterTrains -/
structure StI (w wr : World) (b off : Nat) (ns : List (Int × ByteArray)) (g cap : Nat) (l : List Int) : Prop where
  nt : NtC wr b off ns
  ow : OwnI wr g cap l
  d : ns.length = 0 ∨ b < w.heap.size
  gz : w.heap.size ≤ g
  bl : Below w.heap.size w wr
theorem StI.below {w wr w' : World} {b off : Nat} {ns : List (Int × ByteArray)} {g cap : Nat} {l : List Int} (h : StI w wr b off ns g cap l) (hb : Below wr.heap.size wr w') : StI w w' b off ns g cap l :=
  ⟨h.nt.keep hb, Own.below h.ow hb (Own.lt h.ow), h.d, h.gz, h.bl.trans (hb.mono h.bl.size)⟩
theorem StI.push {w wr wa : World} {b off : Nat} {ns : List (Int × ByteArray)} {g cap g' c' : Nat} {l : List Int} {z : Int} (h : StI w wr b off ns g cap l) (HA : Own wa g' c' (l.length + 1) 1 3 (fun q => .int .i64 (iF (l ++ [z]) q))) (hgr : wr.grownBy wa (some g)) (hd : (g' = g ∧ c' = cap) ∨ wr.heap.size < g') :
    StI w wa b off ns g' c' (l ++ [z]) := by
  have hgz := h.gz
  have hbs := h.bl.size
  refine ⟨fun k hk => ?_, ?_, h.d, ?_, h.bl.trans (below_of_grown hgr h.gz h.bl.size)⟩
  · obtain ⟨h1, h2⟩ := h.nt k hk
    have hbz : b < w.heap.size := by rcases h.d with q | q <;> omega
    have key : ∀ o, wa.cell? ⟨b, o, none⟩ = wr.cell? ⟨b, o, none⟩ := fun o => World.cell?_of_block (w := wr) (hgr.block b (by omega) (by simp; omega))
    exact ⟨(key _).trans h1, (key _).trans h2⟩
  · show Own _ _ _ _ _ _ _
    rw [List.length_append]
    exact HA
  · rcases hd with ⟨rfl, _⟩ | q <;> omega
set_option linter.unusedSimpArgs false in
set_option maxRecDepth 100000 in
set_option maxHeartbeats 2000000 in
theorem specTrains_any (b off c : Nat) (ns : List (Int × ByteArray)) (w : World) (hn : ns.length ≤ 1000000000000) (hc : NtC w b off ns) :
    Calls Try.prog 19 #[.slice (some ⟨b, off, none⟩) ns.length c] w fun e w' => (∃ g cap, e = .returned (.slice (some ⟨g, 0, none⟩) (trL ns).length cap) ∧ w.heap.size ≤ g ∧ OwnI w' g cap (trL ns)) ∧ Below w.heap.size w w' := by
  have HSD : Hid (∀ w', NtC w' b off ns → Calls Try.prog 29 #[.slice (some ⟨b, off, none⟩) ns.length c] w' fun e w2 => e = .returned (.bool (sdV ns)) ∧ Below w'.heap.size w' w2) := fun w' h => specSound_any b off c ns w' hn h
  have HI0 : Hid (StI w (w.alloc (.cells #[] 3)) b off ns w.heap.size 0 []) := ⟨hc.keep (below_all _ _), own_empty _ _ _ _, by
    rcases Nat.eq_zero_or_pos ns.length with h | h
    · exact .inl h
    · exact .inr (World.block_lt_of_cell? w ⟨b, off + 0 * 2, none⟩ (hc 0 h).1), Nat.le_refl _, below_all _ _⟩
  clear hc
  go_enter Try.func19, Try.ntmps19
  go_wp2_with fail
  go_loopw [3, 4, 5] (fun o a i wr => ∃ k : Nat, k ≤ ns.length ∧ i = .int .i64 k ∧ a = .int .i64 (trE ns k) ∧ Hid (0 < k → sdV ns = true) ∧ ∃ g cap, o = .slice (some ⟨g, 0, none⟩) (trI ns k).length cap ∧ Hid (StI w wr b off ns g cap (trI ns k))) (fun _ _ i _ => ns.length - (intOf i).toNat)
  case atStart => exact ⟨0, Nat.zero_le _, rfl, rfl, fun h => by omega, w.heap.size, 0, rfl, HI0⟩
  case round =>
    obtain ⟨k, hk, rfl, rfl, HK, g, cap, rfl, HI⟩ := hrel
    have HCS := Lib.hid (HSD.out wr HI.out.nt)
    by_cases hlt : k < ns.length
    · cases hv : sdV ns
      · have hk0 : k = 0 := by
          rcases Nat.eq_zero_or_pos k with h | h
          · exact h
          · have := HK.out h; rw [this] at hv; cases hv
        subst hk0
        have HV : Hid (trL ns = []) := by show _ = _; unfold trL; rw [hv]; rfl
        have HF := Lib.hid hv
        clear hv
        go_wp2_with fail
        refine HCS.out.mono ?_
        rintro e w2 ⟨rfl, hb⟩
        have HI2 := Lib.hid (HI.out.below hb)
        rw [HF.out]
        clear hb
        go_wp2_with fail
        go_ret
        exact ⟨⟨g, cap, by rw [HV.out]; rfl, HI2.out.gz, by rw [HV.out]; exact HI2.out.ow⟩, HI2.out.bl⟩
      have HSV := Lib.hid hv
      have HRV := Lib.hid (sdV_rg hv)
      have hl30 : ns.length ≤ 30 := (rgV_true.1 HRV.out).1
      have hmb := nM_bd HRV.out k hlt
      have heb := trE_bd HRV.out k (by omega)
      have htl := trI_len ns k
      have HTE : Hid (trE ns (k + 1) = if nL ns k = chN 101 then nM ns k else trE ns k) := rfl
      have HTI : Hid (trI ns (k + 1) = if nL ns k = chN 108 then trI ns k ++ [nM ns k - trE ns k] else trI ns k) := rfl
      have HIC : Hid (∀ W g cap l, StI w W b off ns g cap l → W.cell? ⟨b, off + k * 2, none⟩ = some (.int .i64 (nM ns k)) ∧ W.cell? ⟨b, off + k * 2 + 1, none⟩ = some (.string (nL ns k))) := fun W g cap l h => h.nt k hlt
      generalize nM ns k = m at *
      generalize nL ns k = l at *
      generalize trE ns k = en at *
      clear hv
      by_cases hl1 : l = chN 101
      · have HT1 : Hid (trE ns (k + 1) = m) := by show _ = _; rw [HTE.out, if_pos hl1]
        have HT2 : Hid (trI ns (k + 1) = trI ns k) := by
          show _ = _
          rw [HTI.out, if_neg (by rw [hl1]; decide)]
        have ht := tl_eq 101
        rw [← hl1] at ht
        have ht1 := ht.1
        have ht2 : (l.toList == [108]) = false := (tl_ne (by rw [hl1]; decide)).1
        clear hl1 ht
        go_wp2_with fail
        refine HCS.out.mono ?_
        rintro e w2 ⟨rfl, hb⟩
        have HI2 := Lib.hid (HI.out.below hb)
        obtain ⟨c0, c1⟩ := HIC.out _ _ _ _ HI2.out
        rw [HSV.out]
        clear hb
        go_wp2_with fail
        go_roundw
        case rel => exact ⟨k + 1, by omega, by go_num, by rw [HT1.out], fun _ => (by first | exact HSV.out | exact trivial), g, cap, by rw [HT2.out], by rw [HT2.out]; exact HI2.out⟩
        case measure => simp [intOf]; omega
      have ht1 := (tl_ne hl1).1
      have HT1 : Hid (trE ns (k + 1) = en) := by show _ = _; rw [HTE.out, if_neg hl1]
      clear hl1
      by_cases hl2 : l = chN 108
      · have HT2 : Hid (trI ns (k + 1) = trI ns k ++ [m - en]) := by show _ = _; rw [HTI.out, if_pos hl2]
        have ht := tl_eq 108
        rw [← hl2] at ht
        have ht2 := ht.1
        clear hl2 ht
        have hwm : IntKind.i64.wrap (m - en) = m - en := IntWalk.i64_in _ (by omega)
        go_wp2_with fail
        refine HCS.out.mono ?_
        rintro e w2 ⟨rfl, hb⟩
        have HI2 := Lib.hid (HI.out.below hb)
        obtain ⟨c0, c1⟩ := HIC.out _ _ _ _ HI2.out
        rw [HSV.out]
        clear hb
        go_wp2_with (at_builtin; refine wpList_pushI elInt rfl (.tmp 34) (.tmp 42) (by rfl) (f := fun q => iF (trI ns k ++ [m - en]) q) (Own.congr HI2.out.ow (fun q hq => by rw [iF_old (by omega)])) (by rfl) (by rfl) (by exact iF_new.symm) (by omega) ?_; intro g' c' wa HA hgr hd; have HI3 : Hid (StI w wa b off ns g' c' (trI ns k ++ [m - en])) := HI2.out.push HA hgr hd; clear HA hgr hd)
        go_roundw
        case rel => exact ⟨k + 1, by omega, by go_num, by rw [HT1.out], fun _ => (by first | exact HSV.out | exact trivial), g', c', by rw [HT2.out]; simp, by rw [HT2.out]; exact HI3.out⟩
        case measure => simp [intOf]; omega
      · have ht2 := (tl_ne hl2).1
        have HT2 : Hid (trI ns (k + 1) = trI ns k) := by show _ = _; rw [HTI.out, if_neg hl2]
        clear hl2
        go_wp2_with fail
        refine HCS.out.mono ?_
        rintro e w2 ⟨rfl, hb⟩
        have HI2 := Lib.hid (HI.out.below hb)
        obtain ⟨c0, c1⟩ := HIC.out _ _ _ _ HI2.out
        rw [HSV.out]
        clear hb
        go_wp2_with fail
        go_roundw
        case rel => exact ⟨k + 1, by omega, by go_num, by rw [HT1.out], fun _ => (by first | exact HSV.out | exact trivial), g, cap, by rw [HT2.out], by rw [HT2.out]; exact HI2.out⟩
        case measure => simp [intOf]; omega
    · obtain e : k = ns.length := by omega
      subst e
      have HV : Hid (trL ns = trI ns ns.length) := by
        show _ = _
        unfold trL
        split
        · rfl
        · rename_i hs
          rcases Nat.eq_zero_or_pos ns.length with h | h
          · rw [h]; rfl
          · exact absurd (HK.out h) hs
      go_wp2_with fail
      go_ret
      exact ⟨⟨g, cap, by rw [HV.out]; rfl, HI.out.gz, by rw [HV.out]; exact HI.out.ow⟩, HI.out.bl⟩
end Go.Proofs.Ytokddeoliieofaa
