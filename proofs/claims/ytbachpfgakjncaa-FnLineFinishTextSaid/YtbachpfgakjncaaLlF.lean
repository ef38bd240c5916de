/-
  The law FnLineFinish: the walk.
-/
import Derived.Test.YtbachpfgakjncaaWz
namespace Go.Proofs.Ytbachpfgakjncaa
open Go.RowKit

theorem MvsC.take {w : World} {b o n k : Nat} {M : Nat → Int} {L : Nat → ByteArray} (h : MvsC w b o n M L) (hk : k ≤ n) : MvsC w b o k M L := fun i hi => h i (by omega)
theorem MvsC.drop {w : World} {b o k : Nat} {ms : List (Int × ByteArray)} (h : MvsC w b o ms.length (mvM ms) (mvS ms)) : MvsC w b (o + k * 2) (ms.length - k) (mvM (ms.drop k)) (mvS (ms.drop k)) := fun i hi => by
  obtain ⟨h1, h2⟩ := h (k + i) (by omega)
  rw [show o + k * 2 + i * 2 = o + (k + i) * 2 by omega]
  refine ⟨by rw [h1]; unfold mvM; rw [List.getElem?_drop], by rw [h2]; unfold mvS; rw [List.getElem?_drop]⟩
theorem LbM.runI {w wr : World} {b g1 c1 g2 c2 mb mo q mc : Nat} {x : Ln} {M : Nat → Int} {L : Nat → ByteArray} (h : LbM w wr b g1 c1 g2 c2 x) (hm : MvsC wr mb mo q M L) (hq : q ≤ 1000000) : Calls Try.prog 16 #[.agg #[.slice (some ⟨g1, 0, none⟩) x.n c1, .slice (some ⟨g2, 0, none⟩) x.m c2], .slice (some ⟨mb, mo, none⟩) q mc] wr (LrR (rnO x M L q) wr) :=
  lineRun_any g1 0 c1 g2 0 c2 mb mo q mc x M L wr (by have := h.hn; omega) (by have := h.hm; omega) (by omega) (BkC.of_own h.bs) (IC.of_own h.ts) hm
set_option linter.unusedSimpArgs false in
set_option maxRecDepth 100000 in
set_option maxHeartbeats 4000000 in
theorem lawLineFinish_any (ao : Option Addr) (n c : Nat) (ao' : Option Addr) (n' c' : Nat) (w : World) (hB : BSl w ao n) (hnc : n ≤ c) (hn : n ≤ 9223372036854775807) (hn' : n' ≤ 9223372036854775807) :
    Calls Try.prog 8 #[.slice ao n c, .slice ao' n' c'] w fun e w' => e = .returned (.bool true) ∧ Below w.heap.size w w' := by
  have HBS := Lib.hid hB
  clear hB
  by_cases hlong : 1048576 < n
  · go_enter Try.func8, Try.ntmps8
    go_wp2_with fail
    go_ret
    exact ⟨rfl, Below.refl _ _⟩
  by_cases hlong2 : 1048576 < n'
  · go_enter Try.func8, Try.ntmps8
    go_wp2_with fail
    go_ret
    exact ⟨rfl, Below.refl _ _⟩
  go_enter Try.func8, Try.ntmps8
  go_wp2_with fail
  refine (drawLFinish_any ao n c _ hnc hn HBS.out).mono ?_
  rintro e w1 ⟨v, x, rfl, hl, hx1, hx2, hx3, hb1⟩
  have HL1 := Lib.hid hl
  have HB1 := Lib.hid hb1
  obtain ⟨g1, c1, g2, c2, rfl, _⟩ := hl
  clear hb1
  have HM1 : Hid (LbM w (w1.alloc (.cells #[.slice (some ⟨g1, 0, none⟩) x.n c1, .slice (some ⟨g2, 0, none⟩) x.m c2] 26)) w1.heap.size g1 c1 g2 c2 x) := LbM.new HB1.out HL1.out (by omega) (by omega)
  clear HL1 HB1
  go_wp2_with fail
  generalize w1.alloc (.cells #[.slice (some ⟨g1, 0, none⟩) x.n c1, .slice (some ⟨g2, 0, none⟩) x.m c2] 26) = w2 at *
  generalize w1.heap.size = b5 at *
  have hbc := HM1.out.box.cell
  refine (HM1.out.finI).mono ?_
  rintro e w3 ⟨⟨v, rfl, hvm⟩, hb⟩
  have HM3 := Lib.hid (HM1.out.below hb)
  clear hb hbc
  have hbc := HM3.out.box.cell
  have HA3 := Lib.hid hvm
  obtain ⟨mb, mo, mc, rfl, hmc, _⟩ := hvm
  go_wp2_with fail
  refine HM3.out.finS.mono ?_
  rintro e w4 ⟨⟨v, rfl, hvm⟩, hb⟩
  have HM4 := Lib.hid (HM3.out.below hb)
  have HA4 := Lib.hid (HA3.out.keep hb)
  have HS4 := Lib.hid hvm
  obtain ⟨sb, so, sc, rfl, hsc, _⟩ := hvm
  clear hb hbc HA3
  have hbc := HM4.out.box.cell
  have hml := fnL_le x
  have HSA := Lib.hid (sameMoves_ML _ _ (fnL x).length (mvM (fnL x)) (mvS (fnL x)) w4 (by omega) HA4.out.vals HS4.out.vals)
  cases hv : vldL x
  · clear hv
    go_wp2_with fail
    refine HSA.out.mono ?_
    rintro e w5 ⟨rfl, hb⟩
    have HM5 := Lib.hid (HM4.out.below hb)
    have HSB := Lib.hid (sameMoves_ML _ _ (fnL x).length (mvM (fnL x)) (mvS (fnL x)) w5 (by omega) (HA4.out.keep hb).vals (HS4.out.keep hb).vals)
    clear hb
    go_wp2_with fail
    refine HSB.out.mono ?_
    rintro e w6 ⟨rfl, hb⟩
    have HM6 := Lib.hid (HM5.out.below hb)
    clear hb
    go_wp2_with fail
    go_ret
    exact ⟨rfl, HM6.out.bl⟩
  obtain ⟨y0, hy0, hvy0, hly0, hyn0, hym0⟩ := rnO_fin hv
  have HY0 := Lib.hid hy0
  have HDY0 : Hid (donL y0 = true) := by show _ = _; rw [done_left hvy0, hly0]; rfl
  have hb0 : y0.n ≤ 4 ∧ y0.m ≤ 5 := by omega
  have HV := Lib.hid hv
  clear hy0 hvy0 hly0 hyn0 hym0 hv
  go_wp2_with fail
  refine HSA.out.mono ?_
  rintro e w5 ⟨rfl, hb⟩
  have HM5 := Lib.hid (HM4.out.below hb)
  have HA5 := Lib.hid (HA4.out.keep hb)
  have hbc5 := HM5.out.box.cell
  have HRN : Hid (Calls Try.prog 16 #[.agg #[.slice (some ⟨g1, 0, none⟩) x.n c1, .slice (some ⟨g2, 0, none⟩) x.m c2], .slice (some ⟨mb, mo, none⟩) (fnL x).length mc] w5 fun e w' => ∃ v, e = .returned (.tuple #[v, .bool true]) ∧ LnO w5.heap.size w' v y0 ∧ Below w5.heap.size w5 w') := by
    obtain ⟨_, _, _, e, _, h⟩ := HA5.out
    cases e
    exact (HM5.out.runI h (by omega)).mono fun e w' h => h.some HY0.out
  clear hb hbc HA4 HS4 HSA
  go_wp2_with fail
  refine HRN.out.mono ?_
  rintro e w6 ⟨v, rfl, hl6, hb6⟩
  have HL6 := Lib.hid hl6
  have HM6 := Lib.hid (HM5.out.below hb6)
  have HA6 := Lib.hid (HA5.out.keep hb6)
  obtain ⟨p1, e1, p2, e2, rfl, _⟩ := hl6
  clear hb6 hbc5 HRN
  have HM7 : Hid (LbM w (w6.alloc (.cells #[.slice (some ⟨p1, 0, none⟩) y0.n e1, .slice (some ⟨p2, 0, none⟩) y0.m e2] 26)) b5 g1 c1 g2 c2 x) := HM6.out.alloc _
  have HX7 : Hid (LbM w (w6.alloc (.cells #[.slice (some ⟨p1, 0, none⟩) y0.n e1, .slice (some ⟨p2, 0, none⟩) y0.m e2] 26)) w6.heap.size p1 e1 p2 e2 y0) := LbM.new HM6.out.bl HL6.out (by omega) (by omega)
  have HA7 : Hid (MvA (w6.alloc (.cells #[.slice (some ⟨p1, 0, none⟩) y0.n e1, .slice (some ⟨p2, 0, none⟩) y0.m e2] 26)) (.slice (some ⟨mb, mo, none⟩) (fnL x).length mc) (fnL x)) := HA6.out.keep (below_all _ _)
  go_wp2_with fail
  generalize w6.alloc (.cells #[.slice (some ⟨p1, 0, none⟩) y0.n e1, .slice (some ⟨p2, 0, none⟩) y0.m e2] 26) = w7 at *
  generalize w6.heap.size = b10 at *
  have hk := Nat.mod_lt n' (show 0 < (fnL x).length + 1 by omega)
  have hkm : ((n' : Int) % (((fnL x).length : Int) + 1)) = ((n' % ((fnL x).length + 1) : Nat) : Int) := by
    have h : (((fnL x).length : Int) + 1) = (((fnL x).length + 1 : Nat) : Int) := by omega
    rw [h]
    rfl
  rw [hkm]
  clear hkm
  generalize n' % ((fnL x).length + 1) = k at hk ⊢
  have hkq : k ≤ (fnL x).length := by omega
  have hkI : (k : Int) ≤ ((fnL x).length : Int) := by omega
  have hkc : k ≤ mc := by omega
  have hkcI : (k : Int) ≤ (mc : Int) := by omega
  have HY : Hid (∃ y, rnO x (mvM (fnL x)) (mvS (fnL x)) k = some y ∧ vldL y = true ∧ fnL y = (fnL x).drop k ∧ y.n = x.n ∧ y.m = x.m) := by
    obtain ⟨q, hq⟩ := lefS_nn x
    obtain ⟨h1, h2⟩ := fin_run q x HV.out hq
    have hfx : fnL x = finX x := if_pos HV.out
    have hkl := hkq
    rw [hfx] at hkl
    obtain ⟨y, a1, a2, _, a4, a5, a6⟩ := h2 k (by omega)
    refine ⟨y, ?_, a2, ?_, a5, a6⟩
    · unfold rnO
      rw [if_pos HV.out, hfx, runO_runL x (finX x) k hkl]
      exact a1
    · rw [hfx, show fnL y = finX y from if_pos a2]
      exact a4
  obtain ⟨y, hy1, hy2, hy3, hy4, hy5⟩ := HY.out
  have HY1 := Lib.hid hy1
  have HY2 := Lib.hid hy2
  have HY3 := Lib.hid hy3
  have hyb : y.n ≤ 4 ∧ y.m ≤ 5 := by omega
  clear HY hy1 hy2 hy3 hy4 hy5 hk
  have hbc := HM7.out.box.cell
  obtain ⟨zz, hzz⟩ : ∃ zz, zz = w7.heap.size := ⟨_, rfl⟩
  have HRN : Hid (∀ W, LbM w W b5 g1 c1 g2 c2 x → MvA W (.slice (some ⟨mb, mo, none⟩) (fnL x).length mc) (fnL x) → Calls Try.prog 16 #[.agg #[.slice (some ⟨g1, 0, none⟩) x.n c1, .slice (some ⟨g2, 0, none⟩) x.m c2], .slice (some ⟨mb, mo, none⟩) k mc] W fun e w' => ∃ v, e = .returned (.tuple #[v, .bool true]) ∧ LnO W.heap.size w' v y ∧ Below W.heap.size W w') := fun W h1 h2 => by
    obtain ⟨_, _, _, e, _, h⟩ := h2
    cases e
    exact (h1.runI (h.take hkq) (by omega)).mono fun e w' h => h.some HY1.out
  go_wp2_with fail
  have HSK : Hid (∀ W, Below w7.heap.size w7 W → (W.cell? ⟨b5, 0, none⟩ = some (.slice (some ⟨g1, 0, none⟩) x.n c1) ∧ W.cell? ⟨b5, 1, none⟩ = some (.slice (some ⟨g2, 0, none⟩) x.m c2))) := fun W hb => ⟨(HM7.out.below hb).box.cell 0, (HM7.out.below hb).box.cell 1⟩
  refine wp_region_held_drew (S := (fun w' => w'.cell? ⟨b5, 0, none⟩ = some (.slice (some ⟨g1, 0, none⟩) x.n c1) ∧ w'.cell? ⟨b5, 1, none⟩ = some (.slice (some ⟨g2, 0, none⟩) x.m c2))) (by kernel_rfl) ?_ (fun hHeld => ?_)
  · try dsimp only
    go_keep
  refine wpAnyH_take (i := 0) (oi := ?_) (v := ?_) ?_ (by kernel_rfl) (by kernel_rfl) (by kernel_rfl) ?_ ?_ (by assumption) ?_
  rotate_left 2
  · simp only [List.getElem?_toArray, List.getElem?_cons_succ, List.getElem?_cons_zero]; rfl
  · exact fun _ _ _ h => h
  · first
      | (refine Or.inr ⟨?_, ?_⟩ <;> rfl)
      | (refine Or.inl ⟨?_, ?_⟩; · rfl
         intro w hSw; (try dsimp only at hSw); go_simp; (try with_reducible rfl); done)
  try simp only [Act.put, List.setIfInBounds_toArray, List.set_cons_zero, List.set_cons_succ]
  refine wpAnyH_take (i := 1) (oi := ?_) (v := ?_) ?_ (by kernel_rfl) (by kernel_rfl) (by kernel_rfl) ?_ ?_ (by assumption) ?_
  rotate_left 2
  · simp only [List.getElem?_toArray, List.getElem?_cons_succ, List.getElem?_cons_zero]; rfl
  · exact fun _ _ _ h => h
  · first
      | (refine Or.inr ⟨?_, ?_⟩ <;> rfl)
      | (refine Or.inl ⟨?_, ?_⟩; · rfl
         intro w hSw; (try dsimp only at hSw); go_simp; (try with_reducible rfl); done)
  try simp only [Act.put, List.setIfInBounds_toArray, List.set_cons_zero, List.set_cons_succ]
  refine wpAnyH_take (i := 2) (oi := ?_) (v := ?_) ?_ (by kernel_rfl) (by kernel_rfl) (by kernel_rfl) ?_ ?_ (by assumption) ?_
  rotate_left 2
  · simp only [List.getElem?_toArray, List.getElem?_cons_succ, List.getElem?_cons_zero]; rfl
  · exact fun _ _ _ h => h
  · first
      | (refine Or.inr ⟨?_, ?_⟩ <;> rfl)
      | (refine Or.inl ⟨?_, ?_⟩; · rfl
         intro w hSw; (try dsimp only at hSw); go_simp; (try with_reducible rfl); done)
  try simp only [Act.put, List.setIfInBounds_toArray, List.set_cons_zero, List.set_cons_succ]
  refine wpAnyH_take (i := 3) (oi := ?_) (v := ?_) ?_ (by kernel_rfl) (by kernel_rfl) (by kernel_rfl) ?_ ?_ (by assumption) ?_
  rotate_left 2
  · simp only [List.getElem?_toArray, List.getElem?_cons_succ, List.getElem?_cons_zero]; rfl
  · exact fun _ _ _ h => h
  · first
      | (refine Or.inr ⟨?_, ?_⟩ <;> rfl)
      | (refine Or.inl ⟨?_, ?_⟩; · rfl
         intro w hSw; (try dsimp only at hSw); go_simp; (try with_reducible rfl); done)
  try simp only [Act.put, List.setIfInBounds_toArray, List.set_cons_zero, List.set_cons_succ]
  clear hbc
  refine wpAnyH_ready (rs := [4, 8]) (by kernel_rfl) (by simp) ?_
  refine AllReadyH.cons (o := ?_) ?_ (fun K hK => ?_) ?_
  rotate_left 1
  · simp only [List.getElem?_toArray, List.getElem?_cons_succ, List.getElem?_cons_zero]; rfl
  · go_simp
    go_at_call 16
    go_must (refine Calls.mono (HRN.out _ HM7.out.drew (HA7.out.keep (Below.refl _ w7).drew)) ?_)
    rintro e w9 ⟨v, rfl, hl, hb⟩
    replace hb : Below w7.heap.size w7 w9 := (Below.refl _ w7).drew.trans hb
    have HL9 := Lib.hid hl
    have HB9 := Lib.hid hb
    obtain ⟨q1, d1, q2, d2, rfl, _⟩ := hl
    clear hb
    refine hK.out _ _ ?_ (fun hHeld => ?_)
    · try dsimp only
      exact HSK.out _ HB9.out
    clear hK K
    try simp only [Act.put, List.setIfInBounds_toArray, List.set_cons_zero, List.set_cons_succ]
    refine wpAnyH_take (i := 5) (oi := ?_) (v := ?_) ?_ (by kernel_rfl) (by kernel_rfl) (by kernel_rfl) ?_ ?_ (by assumption) ?_
    rotate_left 2
    · simp only [List.getElem?_toArray, List.getElem?_cons_succ, List.getElem?_cons_zero]; rfl
    · exact fun _ _ _ h => h
    · first
        | (refine Or.inr ⟨?_, ?_⟩ <;> rfl)
        | (refine Or.inl ⟨?_, ?_⟩; · rfl
           intro w hSw; (try dsimp only at hSw); go_simp; (try with_reducible rfl); done)
    try simp only [Act.put, List.setIfInBounds_toArray, List.set_cons_zero, List.set_cons_succ]
    refine wpAnyH_take (i := 6) (oi := ?_) (v := ?_) ?_ (by kernel_rfl) (by kernel_rfl) (by kernel_rfl) ?_ ?_ (by assumption) ?_
    rotate_left 2
    · simp only [List.getElem?_toArray, List.getElem?_cons_succ, List.getElem?_cons_zero]; rfl
    · exact fun _ _ _ h => h
    · first
        | (refine Or.inr ⟨?_, ?_⟩ <;> rfl)
        | (refine Or.inl ⟨?_, ?_⟩; · rfl
           intro w hSw; (try dsimp only at hSw); go_simp; (try with_reducible rfl); done)
    try simp only [Act.put, List.setIfInBounds_toArray, List.set_cons_zero, List.set_cons_succ]
    refine wpAnyH_take (i := 7) (oi := ?_) (v := ?_) ?_ (by kernel_rfl) (by kernel_rfl) (by kernel_rfl) ?_ ?_ (by assumption) ?_
    rotate_left 2
    · simp only [List.getElem?_toArray, List.getElem?_cons_succ, List.getElem?_cons_zero]; rfl
    · exact fun _ _ _ h => h
    · first
        | (refine Or.inr ⟨?_, ?_⟩ <;> rfl)
        | (refine Or.inl ⟨?_, ?_⟩; · rfl
           intro w hSw; (try dsimp only at hSw); go_simp; (try with_reducible rfl); done)
    try simp only [Act.put, List.setIfInBounds_toArray, List.set_cons_zero, List.set_cons_succ]
    refine wpAnyH_ready (rs := [8]) (by kernel_rfl) (by simp) ?_
    refine AllReadyH.cons (o := ?_) ?_ (fun K hK => ?_) AllReadyH.nil
    rotate_left 1
    · simp only [List.getElem?_toArray, List.getElem?_cons_succ, List.getElem?_cons_zero]; rfl
    go_simp
    skip
    refine hK.out _ _ ?_ (fun hHeld => ?_)
    · try dsimp only
      exact HSK.out _ (HB9.out.alloc HB9.out.size _)
    clear hK K
    try simp only [Act.put, List.setIfInBounds_toArray, List.set_cons_zero, List.set_cons_succ]
    refine wpAnyH_ready (rs := [9]) (by kernel_rfl) (by simp) ?_
    refine AllReadyH.cons (o := ?_) ?_ (fun K hK => ?_) AllReadyH.nil
    rotate_left 1
    · simp only [List.getElem?_toArray, List.getElem?_cons_succ, List.getElem?_cons_zero]; rfl
    go_simp
    skip
    refine hK.out _ _ ?_ (fun hHeld => ?_)
    · try dsimp only
      exact HSK.out _ (HB9.out.alloc HB9.out.size _)
    clear hK K
    try simp only [Act.put, List.setIfInBounds_toArray, List.set_cons_zero, List.set_cons_succ]
    refine wpAnyH_take (i := 10) (oi := ?_) (v := ?_) ?_ (by kernel_rfl) (by kernel_rfl) (by kernel_rfl) ?_ ?_ (by assumption) ?_
    rotate_left 2
    · simp only [List.getElem?_toArray, List.getElem?_cons_succ, List.getElem?_cons_zero]; rfl
    · exact fun _ _ _ h => h
    · first
        | (refine Or.inr ⟨?_, ?_⟩ <;> rfl)
        | (refine Or.inl ⟨?_, ?_⟩; · rfl
           intro w hSw; (try dsimp only at hSw); go_simp; (try with_reducible rfl); done)
    try simp only [Act.put, List.setIfInBounds_toArray, List.set_cons_zero, List.set_cons_succ]
    refine wpAnyH_done (by kernel_rfl) ?_ _
    have HMy : Hid (LbM w (w9.alloc (.cells #[.slice (some ⟨q1, 0, none⟩) y.n d1, .slice (some ⟨q2, 0, none⟩) y.m d2] 26)) w9.heap.size q1 d1 q2 d2 y) := LbM.new (HM7.out.below HB9.out).bl HL9.out (by omega) (by omega)
    have HMz : Hid (LbM w (w9.alloc (.cells #[.slice (some ⟨q1, 0, none⟩) y.n d1, .slice (some ⟨q2, 0, none⟩) y.m d2] 26)) b10 p1 e1 p2 e2 y0) := (HX7.out.below HB9.out).alloc _
    have HAz : Hid (MvA (w9.alloc (.cells #[.slice (some ⟨q1, 0, none⟩) y.n d1, .slice (some ⟨q2, 0, none⟩) y.m d2] 26)) (.slice (some ⟨mb, mo, none⟩) (fnL x).length mc) (fnL x)) := (HA7.out.keep HB9.out).keep (below_all _ _)
    clear HL9 HB9 HSK
    generalize w9.alloc (.cells #[.slice (some ⟨q1, 0, none⟩) y.n d1, .slice (some ⟨q2, 0, none⟩) y.m d2] 26) = W9 at *
    generalize w9.heap.size = b13 at *
    have hyc := HMy.out.box.cell
    go_wp2_with fail
    refine HMy.out.finI.mono ?_
    rintro e wa ⟨⟨v, rfl, hvm⟩, hb⟩
    have HMa := Lib.hid (HMz.out.below hb)
    have HAa := Lib.hid (HAz.out.keep hb)
    have HRa := Lib.hid hvm
    obtain ⟨rb, ro, rc, rfl, _, _⟩ := hvm
    rw [HY2.out]
    clear hb hyc
    have hxc := HMa.out.box.cell
    go_wp2_with fail
    refine HMa.out.doneI.mono ?_
    rintro e wb ⟨rfl, hb⟩
    have HMb := Lib.hid (HMa.out.below hb)
    have HAb := Lib.hid (HAa.out.keep hb)
    have HRb := Lib.hid (HRa.out.keep hb)
    rw [HDY0.out]
    clear hb hxc
    have hdl : ((fnL x).drop k).length = (fnL x).length - k := List.length_drop
    have HDL := Lib.hid hdl
    clear hdl
    rcases Nat.lt_or_ge k mc with hkm | hkm
    · have HSM : Hid (Calls Try.prog 14 #[.slice (some ⟨rb, ro, none⟩) (fnL y).length rc, .slice (some ⟨mb, mo + k * 2, none⟩) ((fnL x).length - k) (mc - k)] wb fun e w' => e = .returned (.bool true) ∧ Below wb.heap.size wb w') := by
        obtain ⟨_, _, _, q, _, h⟩ := HAb.out
        cases q
        obtain ⟨_, _, _, q2, _, h2⟩ := HRb.out
        cases q2
        rw [HY3.out] at h2 ⊢
        rw [HDL.out] at h2 ⊢
        exact sameMoves_ML _ _ _ _ _ wb (by omega) (.inl ⟨_, _, _, rfl, h2⟩) (.inl ⟨_, _, _, rfl, h.drop⟩)
      have hkn : ¬ mc = k := by omega
      have hkn2 : ¬ k = mc := by omega
      go_wp2_with fail
      (with_reducible refine HSM.out.mono ?_)
      rintro e wc ⟨rfl, hb⟩
      have HMc := Lib.hid (HMb.out.below hb)
      clear hb
      go_wp2_with fail
      go_ret
      exact ⟨rfl, HMc.out.bl⟩
    · have HSM : Hid (∀ a c', Calls Try.prog 14 #[.slice (some ⟨rb, ro, none⟩) (fnL y).length rc, .slice a 0 c'] wb fun e w' => e = .returned (.bool true) ∧ Below wb.heap.size wb w') := fun a c' => by
        rw [HY3.out, HDL.out, show (fnL x).length - k = 0 by omega]
        exact sameMoves_zero _ _ _ _ _
      have hkn : mc = k := by omega
      subst hkn
      go_wp2_with fail
      (with_reducible refine (HSM.out _ _).mono ?_)
      rintro e wc ⟨rfl, hb⟩
      have HMc := Lib.hid (HMb.out.below hb)
      clear hb
      go_wp2_with fail
      go_ret
      exact ⟨rfl, HMc.out.bl⟩
  · refine AllReadyH.cons (o := ?_) ?_ (fun K hK => ?_) ?_
    rotate_left 1
    · simp only [List.getElem?_toArray, List.getElem?_cons_succ, List.getElem?_cons_zero]; rfl
    · have HBA : Hid (Below w7.heap.size w7 (w7.alloc (.cells #[.slice none 0 0, .slice none 0 0] 26)).drew) := (below_all w7 (.cells #[.slice none 0 0, .slice none 0 0] 26)).drew
      go_simp
      skip
      refine hK.out _ _ ?_ (fun hHeld => ?_)
      · try dsimp only
        exact HSK.out _ HBA.out
      clear hK K
      try simp only [Act.put, List.setIfInBounds_toArray, List.set_cons_zero, List.set_cons_succ]
      have HXA : Hid (Bx (w7.alloc (.cells #[.slice none 0 0, .slice none 0 0] 26)).drew w7.heap.size 26 #[.slice none 0 0, .slice none 0 0]) := Bx.new w7 _ _
      have hza : (w7.alloc (.cells #[.slice none 0 0, .slice none 0 0] 26)).drew.heap.size = w7.heap.size + 1 := by simp
      generalize (w7.alloc (.cells #[.slice none 0 0, .slice none 0 0] 26)).drew = WA at *
      refine wpAnyH_ready (rs := [4]) (by kernel_rfl) (by simp) ?_
      refine AllReadyH.cons (o := ?_) ?_ (fun K hK => ?_) AllReadyH.nil
      rotate_left 1
      · simp only [List.getElem?_toArray, List.getElem?_cons_succ, List.getElem?_cons_zero]; rfl
      go_simp
      go_at_call 16
      go_must (refine Calls.mono (HRN.out _ (HM7.out.below HBA.out) (HA7.out.keep HBA.out)) ?_)
      rintro e w9 ⟨v, rfl, hl, hb⟩
      have HX9 := Lib.hid (HXA.out.below hb HXA.out.lt)
      have HL9 := Lib.hid hl
      have HB9 := Lib.hid (HBA.out.trans (hb.mono HBA.out.size))
      have hxc9 := HX9.out.cell
      have hxf9 := HX9.out.free
      obtain ⟨q1, d1, q2, d2, rfl, _⟩ := hl
      clear hb
      refine hK.out _ _ ?_ (fun hHeld => ?_)
      · try dsimp only
        exact HSK.out _ HB9.out
      clear hK K
      try simp only [Act.put, List.setIfInBounds_toArray, List.set_cons_zero, List.set_cons_succ]
      refine wpAnyH_take (i := 5) (oi := ?_) (v := ?_) ?_ (by kernel_rfl) (by kernel_rfl) (by kernel_rfl) ?_ ?_ (by assumption) ?_
      rotate_left 2
      · simp only [List.getElem?_toArray, List.getElem?_cons_succ, List.getElem?_cons_zero]; rfl
      · exact fun _ _ _ h => h
      · first
          | (refine Or.inr ⟨?_, ?_⟩ <;> rfl)
          | (refine Or.inl ⟨?_, ?_⟩; · rfl
             intro w hSw; (try dsimp only at hSw); go_simp; (try with_reducible rfl); done)
      try simp only [Act.put, List.setIfInBounds_toArray, List.set_cons_zero, List.set_cons_succ]
      refine wpAnyH_take (i := 6) (oi := ?_) (v := ?_) ?_ (by kernel_rfl) (by kernel_rfl) (by kernel_rfl) ?_ ?_ (by assumption) ?_
      rotate_left 2
      · simp only [List.getElem?_toArray, List.getElem?_cons_succ, List.getElem?_cons_zero]; rfl
      · exact fun _ _ _ h => h
      · first
          | (refine Or.inr ⟨?_, ?_⟩ <;> rfl)
          | (refine Or.inl ⟨?_, ?_⟩; · rfl
             intro w hSw; (try dsimp only at hSw); go_simp; (try with_reducible rfl); done)
      try simp only [Act.put, List.setIfInBounds_toArray, List.set_cons_zero, List.set_cons_succ]
      refine wpAnyH_take (i := 7) (oi := ?_) (v := ?_) ?_ (by kernel_rfl) (by kernel_rfl) (by kernel_rfl) ?_ ?_ (by assumption) ?_
      rotate_left 2
      · simp only [List.getElem?_toArray, List.getElem?_cons_succ, List.getElem?_cons_zero]; rfl
      · exact fun _ _ _ h => h
      · first
          | (refine Or.inr ⟨?_, ?_⟩ <;> rfl)
          | (refine Or.inl ⟨?_, ?_⟩; · rfl
             intro w hSw; (try dsimp only at hSw); go_simp; (try with_reducible rfl); done)
      try simp only [Act.put, List.setIfInBounds_toArray, List.set_cons_zero, List.set_cons_succ]
      refine wpAnyH_ready (rs := [9]) (by kernel_rfl) (by simp) ?_
      refine AllReadyH.cons (o := ?_) ?_ (fun K hK => ?_) AllReadyH.nil
      rotate_left 1
      · simp only [List.getElem?_toArray, List.getElem?_cons_succ, List.getElem?_cons_zero]; rfl
      go_simp
      skip
      refine hK.out _ _ ?_ (fun hHeld => ?_)
      · try dsimp only
        exact HSK.out _ ((HB9.out.setCell (Nat.le_refl _) _).setCell (Nat.le_refl _) _)
      clear hK K
      try simp only [Act.put, List.setIfInBounds_toArray, List.set_cons_zero, List.set_cons_succ]
      refine wpAnyH_take (i := 10) (oi := ?_) (v := ?_) ?_ (by kernel_rfl) (by kernel_rfl) (by kernel_rfl) ?_ ?_ (by assumption) ?_
      rotate_left 2
      · simp only [List.getElem?_toArray, List.getElem?_cons_succ, List.getElem?_cons_zero]; rfl
      · exact fun _ _ _ h => h
      · first
          | (refine Or.inr ⟨?_, ?_⟩ <;> rfl)
          | (refine Or.inl ⟨?_, ?_⟩; · rfl
             intro w hSw; (try dsimp only at hSw); go_simp; (try with_reducible rfl); done)
      try simp only [Act.put, List.setIfInBounds_toArray, List.set_cons_zero, List.set_cons_succ]
      refine wpAnyH_done (by kernel_rfl) ?_ _
      have HBs : Hid (Below w7.heap.size w7 ((w9.setCell ⟨w7.heap.size, 0, none⟩ (.slice (some ⟨q1, 0, none⟩) y.n d1)).setCell ⟨w7.heap.size, 1, none⟩ (.slice (some ⟨q2, 0, none⟩) y.m d2))) := (HB9.out.setCell (Nat.le_refl _) _).setCell (Nat.le_refl _) _
      have HMz := Lib.hid (HX7.out.below HBs.out)
      have HAz := Lib.hid (HA7.out.keep HBs.out)
      have HMy := Lib.hid (LbM.put ((HL9.out.setOther (by omega) _).setOther (by omega) _) (bx2 HX9.out (.slice (some ⟨q1, 0, none⟩) y.n d1) (.slice (some ⟨q2, 0, none⟩) y.m d2)) HMz.out.bl (by omega) (by omega))
      clear HL9 HB9 HSK HX9 HBA HXA HBs hxc9 hxf9
      generalize (w9.setCell ⟨w7.heap.size, 0, none⟩ (.slice (some ⟨q1, 0, none⟩) y.n d1)).setCell ⟨w7.heap.size, 1, none⟩ (.slice (some ⟨q2, 0, none⟩) y.m d2) = W9 at *
      generalize w7.heap.size = b13 at *
      have hyc := HMy.out.box.cell
      go_wp2_with fail
      refine HMy.out.finI.mono ?_
      rintro e wa ⟨⟨v, rfl, hvm⟩, hb⟩
      have HMa := Lib.hid (HMz.out.below hb)
      have HAa := Lib.hid (HAz.out.keep hb)
      have HRa := Lib.hid hvm
      obtain ⟨rb, ro, rc, rfl, _, _⟩ := hvm
      rw [HY2.out]
      clear hb hyc
      have hxc := HMa.out.box.cell
      go_wp2_with fail
      refine HMa.out.doneI.mono ?_
      rintro e wb ⟨rfl, hb⟩
      have HMb := Lib.hid (HMa.out.below hb)
      have HAb := Lib.hid (HAa.out.keep hb)
      have HRb := Lib.hid (HRa.out.keep hb)
      rw [HDY0.out]
      clear hb hxc
      have hdl : ((fnL x).drop k).length = (fnL x).length - k := List.length_drop
      have HDL := Lib.hid hdl
      clear hdl
      rcases Nat.lt_or_ge k mc with hkm | hkm
      · have HSM : Hid (Calls Try.prog 14 #[.slice (some ⟨rb, ro, none⟩) (fnL y).length rc, .slice (some ⟨mb, mo + k * 2, none⟩) ((fnL x).length - k) (mc - k)] wb fun e w' => e = .returned (.bool true) ∧ Below wb.heap.size wb w') := by
          obtain ⟨_, _, _, q, _, h⟩ := HAb.out
          cases q
          obtain ⟨_, _, _, q2, _, h2⟩ := HRb.out
          cases q2
          rw [HY3.out] at h2 ⊢
          rw [HDL.out] at h2 ⊢
          exact sameMoves_ML _ _ _ _ _ wb (by omega) (.inl ⟨_, _, _, rfl, h2⟩) (.inl ⟨_, _, _, rfl, h.drop⟩)
        have hkn : ¬ mc = k := by omega
        have hkn2 : ¬ k = mc := by omega
        go_wp2_with fail
        (with_reducible refine HSM.out.mono ?_)
        rintro e wc ⟨rfl, hb⟩
        have HMc := Lib.hid (HMb.out.below hb)
        clear hb
        go_wp2_with fail
        go_ret
        exact ⟨rfl, HMc.out.bl⟩
      · have HSM : Hid (∀ a c', Calls Try.prog 14 #[.slice (some ⟨rb, ro, none⟩) (fnL y).length rc, .slice a 0 c'] wb fun e w' => e = .returned (.bool true) ∧ Below wb.heap.size wb w') := fun a c' => by
          rw [HY3.out, HDL.out, show (fnL x).length - k = 0 by omega]
          exact sameMoves_zero _ _ _ _ _
        have hkn : mc = k := by omega
        subst hkn
        go_wp2_with fail
        (with_reducible refine (HSM.out _ _).mono ?_)
        rintro e wc ⟨rfl, hb⟩
        have HMc := Lib.hid (HMb.out.below hb)
        clear hb
        go_wp2_with fail
        go_ret
        exact ⟨rfl, HMc.out.bl⟩
    · exact AllReadyH.nil
end Go.Proofs.Ytbachpfgakjncaa
