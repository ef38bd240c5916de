/-
  The law FnRegisterLine.
-/
import Derived.Test.YtokddeoliieofaaHb
import Derived.Test.YtokddeoliieofaaKo
import Derived.Test.YtokddeoliieofaaKg
namespace Go.Proofs.Ytokddeoliieofaa
open Go.RowKit

theorem sameInts_nil (w : World) :
    Calls Try.prog 15 #[.slice none 0 0, .slice none 0 0] w fun e w' => e = .returned (.bool true) ∧ w = w' := by
  go_enter Try.func15, Try.ntmps15
  go_wp2_with fail
  go_loop [5] (fun i => i = .int .i64 0) (fun _ => 0)
  case atStart => rfl
  case round =>
    subst hrel
    go_wp2_with fail
    go_ret
    exact ⟨rfl, rfl⟩
set_option linter.unusedSimpArgs false in
theorem sameLine_nil (w : World) :
    Calls Try.prog 58 #[nilLn, nilLn] w fun e w' => e = .returned (.bool true) ∧ Below w.heap.size w w' := by
  unfold nilLn
  have HB0 : Hid (Below w.heap.size w ((w.alloc (.cells #[.slice none 0 0, .slice none 0 0] 75)).alloc (.cells #[.slice none 0 0, .slice none 0 0] 75))) := (below_all _ _).alloc (by simp) _
  have HA0 : Hid (Bx ((w.alloc (.cells #[.slice none 0 0, .slice none 0 0] 75)).alloc (.cells #[.slice none 0 0, .slice none 0 0] 75)) w.heap.size 75 #[.slice none 0 0, .slice none 0 0]) := (Bx.new _ _ _).alloc _
  have HC0 : Hid (Bx ((w.alloc (.cells #[.slice none 0 0, .slice none 0 0] 75)).alloc (.cells #[.slice none 0 0, .slice none 0 0] 75)) (w.heap.size + 1) 75 #[.slice none 0 0, .slice none 0 0]) := Bx.newAt (by simp)
  go_enter Try.func58, Try.ntmps58
  have hac := HA0.out.cell
  have hcc := HC0.out.cell
  go_wp2_with fail
  refine (sameInts_nil _).mono ?_
  rintro e w' ⟨rfl, rfl⟩
  go_wp2_with fail
  go_loop [5] (fun i => i = .int .i64 0) (fun _ => 0)
  case atStart => rfl
  case round =>
    subst hrel
    go_wp2_with fail
    go_ret
    exact ⟨rfl, HB0.out⟩
set_option linter.unusedSimpArgs false in
set_option maxRecDepth 100000 in
set_option maxHeartbeats 4000000 in
theorem lawRLine_any (ao : Option Addr) (n c : Nat) (w : World) (hB : BSl w ao n) (hnc : n ≤ c) (hn : n ≤ 9223372036854775807) :
    Calls Try.prog 11 #[.slice ao n c] w fun e w' => e = .returned (.bool true) ∧ Below w.heap.size w w' := by
  have HBS := Lib.hid hB
  clear hB
  by_cases hlong : 1048576 < n
  · go_enter Try.func11, Try.ntmps11
    go_wp2_with fail
    go_ret
    exact ⟨rfl, Below.refl _ _⟩
  go_enter Try.func11, Try.ntmps11
  go_wp2_with fail
  refine (drawLNew_any ao n c _ hnc hn HBS.out).mono ?_
  rintro e w1 ⟨a, t, rfl, ha, ht, hb1⟩
  have HB1 := Lib.hid hb1
  clear hb1
  cases ho : nwO (a : Int) ((t : Int) - 1) with
  | none =>
    have HO := Lib.hid ho
    clear ho
    go_wp2_with fail
    refine (lineNew_any _ _ _ (by omega)).mono ?_
    rintro e w2 ⟨hb2, h2⟩
    rcases h2 with ⟨_, rfl⟩ | ⟨_, _, h, _⟩
    rotate_left
    · rw [HO.out] at h; cases h
    have HB2 := Lib.hid (HB1.out.trans (hb2.mono HB1.out.size))
    clear hb2
    unfold nilLn
    have HX2 : Hid (Bx (w2.alloc (.cells #[.slice none 0 0, .slice none 0 0] 75)) w2.heap.size 75 #[.slice none 0 0, .slice none 0 0]) := Bx.new _ _ _
    have HB3 := Lib.hid (HB2.out.alloc HB2.out.size (.cells #[.slice none 0 0, .slice none 0 0] 75))
    go_wp2_with fail
    refine (specLineNew_any _ _ _).mono ?_
    rintro e w4 ⟨hb4, h4⟩
    rcases h4 with ⟨_, rfl⟩ | ⟨_, _, h, _⟩
    rotate_left
    · rw [HO.out] at h; cases h
    have HX4 := Lib.hid (HX2.out.below hb4 HX2.out.lt)
    have HB4 := Lib.hid (HB3.out.trans (hb4.mono HB3.out.size))
    clear hb4
    unfold nilLn
    have hl4 := HX4.out.lt
    have hxc := HX4.out.cell
    have HSN := fun W => Lib.hid (sameLine_nil W)
    unfold nilLn at HSN
    have HB5 := Lib.hid (HB4.out.alloc HB4.out.size (.cells #[.slice none 0 0, .slice none 0 0] 75))
    have HX5 := Lib.hid (HX4.out.alloc (.cells #[.slice none 0 0, .slice none 0 0] 75))
    have HY5 : Hid (Bx (w4.alloc (.cells #[.slice none 0 0, .slice none 0 0] 75)) w4.heap.size 75 #[.slice none 0 0, .slice none 0 0]) := Bx.new _ _ _
    go_wp2_with fail
    refine (HSN _).out.mono ?_
    rintro e w6 ⟨rfl, hb6⟩
    have HX6 := Lib.hid (HX5.out.below hb6 HX5.out.lt)
    have HY6 := Lib.hid (HY5.out.below hb6 HY5.out.lt)
    have HB6 := Lib.hid (HB5.out.trans (hb6.mono HB5.out.size))
    clear hb6 hxc
    have hxc := HX6.out.cell
    have hyc := HY6.out.cell
    go_wp2_with fail
    refine (HSN _).out.mono ?_
    rintro e w7 ⟨rfl, hb7⟩
    have HB7 := Lib.hid (HB6.out.trans (hb7.mono HB6.out.size))
    clear hb7
    go_wp2_with fail
    go_ret
    exact ⟨rfl, HB7.out⟩
  | some y =>
    have hy : inB (a : Int) 1 5 = true ∧ inB ((t : Int) - 1) 0 5 = true ∧ newL a (t - 1) = y := by
      unfold nwO at ho
      split at ho
      · rename_i h
        rw [Bool.and_eq_true] at h
        cases ho
        refine ⟨h.1, h.2, ?_⟩
        congr 1
        omega
      · cases ho
    obtain ⟨h1, h2, h3⟩ := hy
    have h1' := inB_true.1 h1
    have h2' := inB_true.1 h2
    obtain ⟨m, rfl⟩ : ∃ m : Nat, t = m + 1 := ⟨t - 1, by omega⟩
    rw [show ((m + 1 : Nat) : Int) - 1 = (m : Int) by omega] at ho
    have HO := Lib.hid ho
    rw [show m + 1 - 1 = m by omega] at h3
    have hm5 : m ≤ 5 := by omega
    have ha5 : 1 ≤ a ∧ a ≤ 5 := by omega
    have HTX : Hid (∀ k : Nat, k < a → sdV (roF (fnL y) (fun q => (q : Int)) k (fnL y).length) = true ∧ (trL (roF (fnL y) (fun q => (q : Int)) k (fnL y).length)).length = m) := fun k hk => by rw [← h3]; exact line_reg ha5.1 ha5.2 hm5 hk
    have HVY : Hid (vldL y = true) := by show _ = _; rw [← h3]; exact newL_vld ha5.1 ha5.2 hm5
    have hyn : y.n ≤ 5 ∧ y.m ≤ 5 := by rw [← h3]; exact ⟨ha5.2, hm5⟩
    clear ho h1 h2 h3 h1' h2'
    go_wp2_with fail
    refine (lineNew_any _ _ _ (by omega)).mono ?_
    rintro e w2 h2
    obtain ⟨v, rfl, hl2, hb2⟩ := h2.some HO.out
    have HB2 := Lib.hid (HB1.out.trans (hb2.mono HB1.out.size))
    have HL2 := Lib.hid hl2
    obtain ⟨g1, c1, g2, c2, rfl, _⟩ := hl2
    clear hb2 h2
    have HM3 : Hid (LbM w (w2.alloc (.cells #[.slice (some ⟨g1, 0, none⟩) y.n c1, .slice (some ⟨g2, 0, none⟩) y.m c2] 75)) w2.heap.size g1 c1 g2 c2 y) := LbM.new HB2.out HL2.out (by omega) (by omega)
    go_wp2_with fail
    refine (specLineNew_any _ _ _).mono ?_
    rintro e w4 h4
    obtain ⟨v, rfl, hl4, hb4⟩ := h4.some HO.out
    have HM4 := Lib.hid (HM3.out.below hb4)
    have HL4 := Lib.hid hl4
    obtain ⟨p1, e1, p2, e2, rfl, _⟩ := hl4
    clear hb4 h4
    have HM5 : Hid (LbM w (w4.alloc (.cells #[.slice (some ⟨p1, 0, none⟩) y.n e1, .slice (some ⟨p2, 0, none⟩) y.m e2] 75)) w2.heap.size g1 c1 g2 c2 y) := HM4.out.alloc _
    have HY5 : Hid (LbM w (w4.alloc (.cells #[.slice (some ⟨p1, 0, none⟩) y.n e1, .slice (some ⟨p2, 0, none⟩) y.m e2] 75)) w4.heap.size p1 e1 p2 e2 y) := LbM.new HM4.out.bl HL4.out (by omega) (by omega)
    have HSL := Lib.hid (sameLine_same g1 0 c1 g2 0 c2 p1 0 e1 p2 0 e2 y _ (by omega) (by omega) (BkC.of_own HM5.out.bs) (IC.of_own HM5.out.ts) (BkC.of_own HY5.out.bs) (IC.of_own HY5.out.ts))
    have hxc := HM4.out.box.cell
    have hxl := HM4.out.box.lt
    go_wp2_with fail
    refine HSL.out.mono ?_
    rintro e w6 ⟨rfl, hb6⟩
    have HM6 := Lib.hid (HM5.out.below hb6)
    clear hb6 hxc hxl
    have hxc := HM6.out.box.cell
    go_wp2_with fail
    refine HM6.out.finI.mono ?_
    rintro e w7 ⟨⟨v, rfl, hvm⟩, hb⟩
    have HM7 := Lib.hid (HM6.out.below hb)
    have HA7 := Lib.hid hvm
    obtain ⟨mb, mo, mc, rfl, _, _⟩ := hvm
    rw [HVY.out]
    clear hb hxc
    have hml := fnL_le y
    generalize fnL y = ms at *
    have HT0 : Hid (Own (w7.alloc (.cells #[] 3)) w7.heap.size 0 0 1 3 (fun q => .int .i64 ((q : Nat) : Int))) := own_empty _ _ _ _
    have HB8 : Hid (Below w7.heap.size w7 (w7.alloc (.cells #[] 3))) := below_all _ _
    have HBW := Lib.hid HM7.out.bl
    go_wp2_with fail
    go_loopw [11, 12] (fun o i wr => ∃ j g c : Nat, j ≤ ms.length ∧ i = .int .i64 j ∧ o = .slice (some ⟨g, 0, none⟩) j c ∧ w7.heap.size ≤ g ∧ Hid (Own wr g c j 1 3 (fun q => .int .i64 ((q : Nat) : Int))) ∧ Hid (Below w7.heap.size w7 wr)) (fun _ i _ => ms.length - (intOf i).toNat)
    case atStart => exact ⟨0, w7.heap.size, 0, Nat.zero_le _, rfl, rfl, Nat.le_refl _, HT0, HB8⟩
    case round =>
      obtain ⟨j, g, c, hj, rfl, rfl, hgz, HO, HI⟩ := hrel
      have hbs := HI.out.size
      by_cases hlt : j < ms.length
      · have hji : (j : Int) < (ms.length : Int) := by omega
        go_wp2_with (at_builtin; refine wpList_pushI elInt rfl (.tmp 69) (.tmp 71) (by rfl) (f := fun q => ((q : Nat) : Int)) HO.out (by rfl) (by rfl) (by rfl) (by omega) ?_; intro g' c' wb HA hgr hd; have HO2 := Lib.hid HA; have HI2 : Hid (Below w7.heap.size w7 wb) := HI.out.trans (below_of_grown hgr hgz hbs); have hgz2 : w7.heap.size ≤ g' := (by omega); clear HA hgr hd)
        go_roundw
        case rel => exact ⟨j + 1, g', c', by omega, by go_num, rfl, hgz2, HO2.out, HI2.out⟩
        case measure => simp [intOf]; omega
      · obtain rfl : j = ms.length := by omega
        have HTM : Hid (∀ W, Below wr.heap.size wr W → IC W g 0 ms.length (fun q => ((q : Nat) : Int))) := fun W h => IC.of_own (f := fun q => ((q : Nat) : Int)) (HO.out.below h HO.out.lt)
        have HMM : Hid (∀ W, Below wr.heap.size wr W → MvA W (.slice (some ⟨mb, mo, none⟩) ms.length mc) ms) := fun W h => HA7.out.keep (HI.out.trans (h.mono hbs))
        go_wp2_with fail
        go_loopw [13, 14, 15] (fun i _ _ wx => ∃ k : Nat, k ≤ a ∧ i = .int .i64 k ∧ Hid (Below wr.heap.size wr wx)) (fun i _ _ _ => a - (intOf i).toNat)
        case atStart => exact ⟨0, Nat.zero_le _, rfl, Below.refl _ _⟩
        case round =>
          obtain ⟨k, hk, rfl, HX⟩ := hrel
          by_cases hlk : k < a
          · obtain ⟨hsd, htl⟩ := HTX.out k hlk
            have hki : (k : Int) < (a : Int) := by omega
            have HRO : Hid (Calls Try.prog 60 #[.slice (some ⟨mb, mo, none⟩) ms.length mc, .slice (some ⟨g, 0, none⟩) ms.length c, .int .i64 k] wr (RuRes (roL ms (fun q => ((q : Nat) : Int)) k) (rgV (roF ms (fun q => ((q : Nat) : Int)) k ms.length)) wr)) := by
              obtain ⟨b', o', c', e, _, h⟩ := HMM.out _ HX.out
              cases e
              exact regOf_any mb mo mc g 0 c ms (fun q => ((q : Nat) : Int)) k wr (by omega) h (HTM.out _ HX.out)
            have hrl : roL ms (fun q => ((q : Nat) : Int)) k = roF ms (fun q => ((q : Nat) : Int)) k ms.length := if_pos (sdV_rg hsd)
            have hle := roF_len ms (fun q => ((q : Nat) : Int)) k ms.length
            rw [hrl, sdV_rg hsd] at HRO
            clear hrl
            have HSD := Lib.hid hsd
            have HTL := Lib.hid htl
            clear hsd htl
            generalize roF ms (fun q => ((q : Nat) : Int)) k ms.length = ns at *
            go_wp2_with fail
            refine HRO.out.mono ?_
            rintro e wy ⟨⟨gn, cn, rfl, hon, _⟩, hby⟩
            have HON := Lib.hid hon
            have HX2 := Lib.hid (HX.out.trans (hby.mono HX.out.size))
            clear hon hby HRO
            have HSO : Hid (Calls Try.prog 28 #[.slice (some ⟨gn, 0, none⟩) ns.length cn] wy fun e w' => e = .returned (.bool true) ∧ Below wy.heap.size wy w') := by
              have q := sound_any gn 0 cn ns wy (by omega) (OwnN.nt HON.out)
              rwa [HSD.out] at q
            go_wp2_with fail
            refine HSO.out.mono ?_
            rintro e wz ⟨rfl, hbz⟩
            have HON2 : Hid (OwnN wz gn cn ns) := Own.below HON.out hbz (Own.lt HON.out)
            have HX3 := Lib.hid (HX2.out.trans (hbz.mono HX2.out.size))
            clear hbz HSO
            have HTR := Lib.hid (trains_any gn 0 cn ns wz (by omega) (OwnN.nt HON2.out))
            rw [HTL.out] at HTR
            go_wp2_with fail
            refine HTR.out.mono ?_
            rintro e wq ⟨⟨gq, cq, rfl, _, _⟩, hbq⟩
            have HX4 := Lib.hid (HX3.out.trans (hbq.mono HX3.out.size))
            clear hbq HTR
            go_wp2_with fail
            go_roundw
            case rel => exact ⟨k + 1, by omega, by go_num, HX4.out⟩
            case measure => simp [intOf]; omega
          · obtain e : k = a := by omega
            subst e
            have hki : ¬ (k : Int) < (k : Int) := by omega
            go_wp2_with fail
            go_ret
            exact ⟨rfl, HBW.out.trans ((HI.out.trans (HX.out.mono hbs)).mono HBW.out.size)⟩
end Go.Proofs.Ytokddeoliieofaa
