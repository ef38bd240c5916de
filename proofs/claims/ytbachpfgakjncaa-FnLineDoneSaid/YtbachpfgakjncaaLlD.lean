/-
  The law FnLineDone: the walk.
-/
import Derived.Test.YtbachpfgakjncaaWa
namespace Go.Proofs.Ytbachpfgakjncaa
open Go.RowKit

/-- behind a move of a line that is done one move is left -/
theorem done_next {x : Ln} {z : Int × ByteArray} (h0 : lefS x x.n = 0) (hz : z ∈ lmL x) : lefS (mvTo x z.1 z.2) (mvTo x z.1 z.2).n = 1 := by
  obtain ⟨hv, ho⟩ := lmL_ok hz
  obtain ⟨s, l⟩ := z
  obtain ⟨k, c, e, hk, rfl, hJ, hJ5, _⟩ := mv_is ho
  obtain rfl : s = k := e
  replace ho : mvOk x k (chr c) = true := ho
  obtain ⟨h1, h2⟩ := lefT_mv ho hk
  have e1 := lefS_T hv x.n (Nat.le_refl _)
  have e2 : lefS (mvTo x k (chr c)) x.n = lefT (mvTo x k (chr c)) x.n := lefS_T (vld_mv hv ho) x.n (Nat.le_refl _)
  show lefS (mvTo x k (chr c)) x.n = 1
  rw [e2]
  have hz0 := lefK_zero (lefT_zero x.n (by rw [← e1]; exact h0) k hk)
  have hJe : mvJ x k (chr c) = nx (sk x k) c.toNat := hJ
  have hJ5' : mvJ x k (chr c) < 5 := hJ5
  rw [hJe] at h1 h2 hJ5'
  rw [hz0.1, hz0.2] at h1 h2
  rw [hz0.1] at hJ5'
  rcases nx_cases hJ5' with ⟨a, b, d⟩ | ⟨a, _⟩ | ⟨a, _⟩ | ⟨a, _⟩ | ⟨a, _⟩ | ⟨a, _⟩ | ⟨a, _⟩
  · rw [d] at h1 h2
    rcases h2 with ⟨h3, _⟩ | ⟨h3, _⟩
    · rw [h3] at h1
      have e3 : lefK 0 0 = 0 := rfl
      have e4 : lefK 1 0 = 1 := rfl
      rw [e3, e4] at h1
      omega
    · omega
  all_goals omega
set_option linter.unusedSimpArgs false in
set_option maxRecDepth 100000 in
set_option maxHeartbeats 4000000 in
theorem lawLineDone_any (ao : Option Addr) (n c : Nat) (w : World) (hB : BSl w ao n) (hnc : n ≤ c) (hn : n ≤ 9223372036854775807) :
    Calls Try.prog 9 #[.slice ao n c] w fun e w' => e = .returned (.bool true) ∧ Below w.heap.size w w' := by
  have HBS := Lib.hid hB
  clear hB
  by_cases hlong : 1048576 < n
  · go_enter Try.func9, Try.ntmps9
    go_wp2_with fail
    go_ret
    exact ⟨rfl, Below.refl _ _⟩
  go_enter Try.func9, Try.ntmps9
  go_wp2_with fail
  refine (drawLDone_any ao n c _ hnc hn HBS.out).mono ?_
  rintro e w1 ⟨v, x, rfl, hl, hx1, hx2, hx3, hb1⟩
  have HL1 := Lib.hid hl
  have HB1 := Lib.hid hb1
  obtain ⟨g1, c1, g2, c2, rfl, _⟩ := hl
  clear hb1
  have HM1 : Hid (LbM w (w1.alloc (.cells #[.slice (some ⟨g1, 0, none⟩) x.n c1, .slice (some ⟨g2, 0, none⟩) x.m c2] 26)) w1.heap.size g1 c1 g2 c2 x) := LbM.new HB1.out HL1.out (by omega) (by omega)
  clear HL1 HB1
  go_wp2_with fail
  generalize w1.alloc (.cells #[.slice (some ⟨g1, 0, none⟩) x.n c1, .slice (some ⟨g2, 0, none⟩) x.m c2] 26) = w2 at *
  generalize w1.heap.size = b3 at *
  have hbc := HM1.out.box.cell
  refine (HM1.out.doneI).mono ?_
  rintro e w3 ⟨rfl, hb⟩
  have HM3 := Lib.hid (HM1.out.below hb)
  clear hb hbc
  have hbc := HM3.out.box.cell
  go_wp2_with fail
  refine (HM3.out.doneS).mono ?_
  rintro e w4 ⟨rfl, hb⟩
  have HM4 := Lib.hid (HM3.out.below hb)
  clear hb hbc
  have hbc := HM4.out.box.cell
  cases hd : donL x
  · clear hd
    go_wp2_with fail
    go_ret
    exact ⟨rfl, HM4.out.bl⟩
  have hv : vldL x = true := by
    rw [donL_dn4, Bool.and_eq_true] at hd
    exact hd.1
  have h0 : lefS x x.n = 0 := by
    rw [done_left hv, decide_eq_true_eq] at hd
    exact hd
  have HCN : Hid (cntA x.T (2 * x.n) x.m = x.m) := by
    show _ = _
    unfold donL at hd
    simp only [Bool.and_eq_true, decide_eq_true_eq] at hd
    exact hd.2.1
  have HFL : Hid ((fnL x).length = 0) := by
    show _ = _
    rw [show fnL x = finX x from if_pos hv, finX_done (by omega)]
    rfl
  have HLO : Hid (lefO x = 0) := by show _ = _; rw [lefO_v hv, h0]
  have HZ := Lib.hid h0
  have HV := Lib.hid hv
  clear hv h0 hd
  go_wp2_with fail
  refine (HM4.out.finI).mono ?_
  rintro e w5 ⟨⟨v, rfl, hvm⟩, hb⟩
  have HM5 := Lib.hid (HM4.out.below hb)
  clear hb hbc
  have hbc := HM5.out.box.cell
  obtain ⟨aof, cf, rfl⟩ := hvm.vals.shape
  rw [HV.out, HFL.out]
  clear hvm
  go_wp2_with fail
  refine (HM5.out.movI).mono ?_
  rintro e w6 ⟨⟨v, rfl, hvm⟩, hb⟩
  have HM6 := Lib.hid (HM5.out.below hb)
  clear hb hbc
  have hbc := HM6.out.box.cell
  have HVM := Lib.hid hvm
  obtain ⟨aom, cm, rfl⟩ := hvm.shape
  clear hvm
  have hml := lmL_len x
  go_wp2_with fail
  clear hbc
  go_loopw [9, 10, 11] (fun i _ _ wr => ∃ k : Nat, k ≤ (lmL x).length ∧ i = .int .i64 k ∧ Hid (LbM w wr b3 g1 c1 g2 c2 x) ∧ Hid (MvV wr (.slice aom (lmL x).length cm) (lmL x))) (fun i _ _ _ => (lmL x).length - (intOf i).toNat)
  case atStart => exact ⟨0, Nat.zero_le _, rfl, HM6, HVM⟩
  case round =>
    obtain ⟨k, hk, rfl, HM, HW⟩ := hrel
    have hbc := HM.out.box.cell
    by_cases hlt : k < (lmL x).length
    · obtain ⟨bm, mo, rfl, hm0, hm1⟩ := HW.out.at hlt
      have HSO := Lib.hid (lmL_stO (List.getElem_mem hlt))
      have hok := lmL_ok (List.getElem_mem hlt)
      have hvy := vld_mv hok.1 hok.2
      have hly := done_next HZ.out (List.getElem_mem hlt)
      have HLY : Hid (lefO (mvTo x ((lmL x)[k]).1 ((lmL x)[k]).2) = 1) := by show _ = _; rw [lefO_v hvy]; exact hly
      have HDY : Hid (donL (mvTo x ((lmL x)[k]).1 ((lmL x)[k]).2) = false) := by show _ = _; rw [done_left hvy, hly]; rfl
      clear hok hvy hly
      generalize hs : ((lmL x)[k]).1 = s at *
      generalize hls : ((lmL x)[k]).2 = l at *
      clear hs hls
      have HST : Hid (∀ W, LbM w W b3 g1 c1 g2 c2 x → Calls Try.prog 15 #[.agg #[.slice (some ⟨g1, 0, none⟩) x.n c1, .slice (some ⟨g2, 0, none⟩) x.m c2], .agg #[.int .i64 s, .string l]] W fun e w' => ∃ v, e = .returned (.tuple #[v, .bool true]) ∧ LnO W.heap.size w' v (mvTo x s l) ∧ Below W.heap.size W w') := fun W hW => (hW.step s l).mono fun e w' h => h.some HSO.out
      have hyn : (mvTo x s l).n ≤ 4 := hx2
      have hym : (mvTo x s l).m ≤ 5 := hx3
      generalize hy : mvTo x s l = y at *
      clear hy
      go_wp2_with fail
      refine wp_region_held_drew (S := (fun w' => (w'.cell? ⟨b3, 0, none⟩ = some (.slice (some ⟨g1, 0, none⟩) x.n c1) ∧ w'.cell? ⟨b3, 1, none⟩ = some (.slice (some ⟨g2, 0, none⟩) x.m c2)) ∧ (w'.cell? ⟨bm, mo + k * 2, none⟩ = some (.int .i64 s) ∧ w'.cell? ⟨bm, mo + k * 2 + 1, none⟩ = some (.string l)))) (by kernel_rfl) ?_ (fun hHeld => ?_)
      · try dsimp only
        go_keep
      refine wpAnyH_take (i := 0) (oi := ?_) (v := ?_) ?_ (by kernel_rfl) (by kernel_rfl) (by kernel_rfl) ?_ ?_ (by assumption) ?_
      rotate_left 2
      · simp only [List.getElem?_toArray, List.getElem?_cons_succ, List.getElem?_cons_zero]; rfl
      · exact fun _ _ _ h => h
      · first
          | (refine Or.inr ⟨?_, ?_⟩ <;> rfl)
          | (refine Or.inl ⟨?_, ?_⟩; · rfl
             intro w hSw; (try dsimp only at hSw); go_simp; (try with_reducible rfl); done)
      try simp only [Act.put, List.setIfInBounds_toArray, List.set_cons_zero, List.set_cons_succ]
      refine wpAnyH_take (i := 1) (oi := ?_) (v := ?_) ?_ (by kernel_rfl) (by kernel_rfl) (by kernel_rfl) ?_ ?_ (by assumption) ?_
      rotate_left 2
      · simp only [List.getElem?_toArray, List.getElem?_cons_succ, List.getElem?_cons_zero]; rfl
      · exact fun _ _ _ h => h
      · first
          | (refine Or.inr ⟨?_, ?_⟩ <;> rfl)
          | (refine Or.inl ⟨?_, ?_⟩; · rfl
             intro w hSw; (try dsimp only at hSw); go_simp; (try with_reducible rfl); done)
      try simp only [Act.put, List.setIfInBounds_toArray, List.set_cons_zero, List.set_cons_succ]
      refine wpAnyH_take (i := 2) (oi := ?_) (v := ?_) ?_ (by kernel_rfl) (by kernel_rfl) (by kernel_rfl) ?_ ?_ (by assumption) ?_
      rotate_left 2
      · simp only [List.getElem?_toArray, List.getElem?_cons_succ, List.getElem?_cons_zero]; rfl
      · exact fun _ _ _ h => h
      · first
          | (refine Or.inr ⟨?_, ?_⟩ <;> rfl)
          | (refine Or.inl ⟨?_, ?_⟩; · rfl
             intro w hSw; (try dsimp only at hSw); go_simp; (try with_reducible rfl); done)
      try simp only [Act.put, List.setIfInBounds_toArray, List.set_cons_zero, List.set_cons_succ]
      refine wpAnyH_take (i := 3) (oi := ?_) (v := ?_) ?_ (by kernel_rfl) (by kernel_rfl) (by kernel_rfl) ?_ ?_ (by assumption) ?_
      rotate_left 2
      · simp only [List.getElem?_toArray, List.getElem?_cons_succ, List.getElem?_cons_zero]; rfl
      · exact fun _ _ _ h => h
      · first
          | (refine Or.inr ⟨?_, ?_⟩ <;> rfl)
          | (refine Or.inl ⟨?_, ?_⟩; · rfl
             intro w hSw; (try dsimp only at hSw); go_simp; (try with_reducible rfl); done)
      try simp only [Act.put, List.setIfInBounds_toArray, List.set_cons_zero, List.set_cons_succ]
      refine wpAnyH_take (i := 4) (oi := ?_) (v := ?_) ?_ (by kernel_rfl) (by kernel_rfl) (by kernel_rfl) ?_ ?_ (by assumption) ?_
      rotate_left 2
      · simp only [List.getElem?_toArray, List.getElem?_cons_succ, List.getElem?_cons_zero]; rfl
      · exact fun _ _ _ h => h
      · first
          | (refine Or.inr ⟨?_, ?_⟩ <;> rfl)
          | (refine Or.inl ⟨?_, ?_⟩; · rfl
             intro w hSw; (try dsimp only at hSw); go_simp; (try with_reducible rfl); done)
      try simp only [Act.put, List.setIfInBounds_toArray, List.set_cons_zero, List.set_cons_succ]
      have HSK : Hid (∀ W, Below wr.heap.size wr W → (W.cell? ⟨b3, 0, none⟩ = some (.slice (some ⟨g1, 0, none⟩) x.n c1) ∧ W.cell? ⟨b3, 1, none⟩ = some (.slice (some ⟨g2, 0, none⟩) x.m c2)) ∧ (W.cell? ⟨bm, mo + k * 2, none⟩ = some (.int .i64 s) ∧ W.cell? ⟨bm, mo + k * 2 + 1, none⟩ = some (.string l))) := fun W hb => by
        have h1 := (HM.out.below hb).box.cell
        have h2 : bm < wr.heap.size := World.block_lt_of_cell? wr ⟨bm, mo + k * 2, none⟩ hm0
        exact ⟨⟨h1 0, h1 1⟩, by rw [hb.cell (p := ⟨bm, mo + k * 2, none⟩) h2]; exact hm0, by rw [hb.cell (p := ⟨bm, mo + k * 2 + 1, none⟩) h2]; exact hm1⟩
      clear hbc hm0 hm1
      refine wpAnyH_ready (rs := [5, 9]) (by kernel_rfl) (by simp) ?_
      refine AllReadyH.cons (o := ?_) ?_ (fun K hK => ?_) ?_
      rotate_left 1
      · simp only [List.getElem?_toArray, List.getElem?_cons_succ, List.getElem?_cons_zero]; rfl
      · go_simp
        go_at_call 15
        go_must (refine Calls.mono (HST.out _ HM.out.drew) ?_)
        rintro e w4 ⟨v, rfl, hl, hb⟩
        replace hb : Below wr.heap.size wr w4 := (Below.refl _ wr).drew.trans hb
        have HL4 := Lib.hid hl
        have HB4 := Lib.hid hb
        obtain ⟨p1, e1, p2, e2, rfl, _⟩ := hl
        clear hb
        refine hK.out _ _ ?_ (fun hHeld => ?_)
        · try dsimp only
          exact HSK.out _ HB4.out
        clear hK K
        try simp only [Act.put, List.setIfInBounds_toArray, List.set_cons_zero, List.set_cons_succ]
        refine wpAnyH_take (i := 6) (oi := ?_) (v := ?_) ?_ (by kernel_rfl) (by kernel_rfl) (by kernel_rfl) ?_ ?_ (by assumption) ?_
        rotate_left 2
        · simp only [List.getElem?_toArray, List.getElem?_cons_succ, List.getElem?_cons_zero]; rfl
        · exact fun _ _ _ h => h
        · first
            | (refine Or.inr ⟨?_, ?_⟩ <;> rfl)
            | (refine Or.inl ⟨?_, ?_⟩; · rfl
               intro w hSw; (try dsimp only at hSw); go_simp; (try with_reducible rfl); done)
        try simp only [Act.put, List.setIfInBounds_toArray, List.set_cons_zero, List.set_cons_succ]
        refine wpAnyH_take (i := 7) (oi := ?_) (v := ?_) ?_ (by kernel_rfl) (by kernel_rfl) (by kernel_rfl) ?_ ?_ (by assumption) ?_
        rotate_left 2
        · simp only [List.getElem?_toArray, List.getElem?_cons_succ, List.getElem?_cons_zero]; rfl
        · exact fun _ _ _ h => h
        · first
            | (refine Or.inr ⟨?_, ?_⟩ <;> rfl)
            | (refine Or.inl ⟨?_, ?_⟩; · rfl
               intro w hSw; (try dsimp only at hSw); go_simp; (try with_reducible rfl); done)
        try simp only [Act.put, List.setIfInBounds_toArray, List.set_cons_zero, List.set_cons_succ]
        refine wpAnyH_take (i := 8) (oi := ?_) (v := ?_) ?_ (by kernel_rfl) (by kernel_rfl) (by kernel_rfl) ?_ ?_ (by assumption) ?_
        rotate_left 2
        · simp only [List.getElem?_toArray, List.getElem?_cons_succ, List.getElem?_cons_zero]; rfl
        · exact fun _ _ _ h => h
        · first
            | (refine Or.inr ⟨?_, ?_⟩ <;> rfl)
            | (refine Or.inl ⟨?_, ?_⟩; · rfl
               intro w hSw; (try dsimp only at hSw); go_simp; (try with_reducible rfl); done)
        try simp only [Act.put, List.setIfInBounds_toArray, List.set_cons_zero, List.set_cons_succ]
        refine wpAnyH_ready (rs := [9]) (by kernel_rfl) (by simp) ?_
        refine AllReadyH.cons (o := ?_) ?_ (fun K hK => ?_) AllReadyH.nil
        rotate_left 1
        · simp only [List.getElem?_toArray, List.getElem?_cons_succ, List.getElem?_cons_zero]; rfl
        go_simp
        skip
        refine hK.out _ _ ?_ (fun hHeld => ?_)
        · try dsimp only
          exact HSK.out _ (HB4.out.alloc HB4.out.size _)
        clear hK K
        try simp only [Act.put, List.setIfInBounds_toArray, List.set_cons_zero, List.set_cons_succ]
        refine wpAnyH_ready (rs := [10]) (by kernel_rfl) (by simp) ?_
        refine AllReadyH.cons (o := ?_) ?_ (fun K hK => ?_) AllReadyH.nil
        rotate_left 1
        · simp only [List.getElem?_toArray, List.getElem?_cons_succ, List.getElem?_cons_zero]; rfl
        go_simp
        skip
        refine hK.out _ _ ?_ (fun hHeld => ?_)
        · try dsimp only
          exact HSK.out _ (HB4.out.alloc HB4.out.size _)
        clear hK K
        try simp only [Act.put, List.setIfInBounds_toArray, List.set_cons_zero, List.set_cons_succ]
        refine wpAnyH_take (i := 11) (oi := ?_) (v := ?_) ?_ (by kernel_rfl) (by kernel_rfl) (by kernel_rfl) ?_ ?_ (by assumption) ?_
        rotate_left 2
        · simp only [List.getElem?_toArray, List.getElem?_cons_succ, List.getElem?_cons_zero]; rfl
        · exact fun _ _ _ h => h
        · first
            | (refine Or.inr ⟨?_, ?_⟩ <;> rfl)
            | (refine Or.inl ⟨?_, ?_⟩; · rfl
               intro w hSw; (try dsimp only at hSw); go_simp; (try with_reducible rfl); done)
        try simp only [Act.put, List.setIfInBounds_toArray, List.set_cons_zero, List.set_cons_succ]
        refine wpAnyH_done (by kernel_rfl) ?_ _
        have HMy : Hid (LbM w (w4.alloc (.cells #[.slice (some ⟨p1, 0, none⟩) y.n e1, .slice (some ⟨p2, 0, none⟩) y.m e2] 26)) w4.heap.size p1 e1 p2 e2 y) := LbM.new (HM.out.below HB4.out).bl HL4.out (by omega) (by omega)
        have HMz : Hid (LbM w (w4.alloc (.cells #[.slice (some ⟨p1, 0, none⟩) y.n e1, .slice (some ⟨p2, 0, none⟩) y.m e2] 26)) b3 g1 c1 g2 c2 x) := (HM.out.below HB4.out).alloc _
        have HVz : Hid (MvV (w4.alloc (.cells #[.slice (some ⟨p1, 0, none⟩) y.n e1, .slice (some ⟨p2, 0, none⟩) y.m e2] 26)) (.slice (some ⟨bm, mo, none⟩) (lmL x).length cm) (lmL x)) := (HW.out.keep HB4.out).keep (below_all _ _)
        clear HL4 HB4 HSK
        generalize w4.alloc (.cells #[.slice (some ⟨p1, 0, none⟩) y.n e1, .slice (some ⟨p2, 0, none⟩) y.m e2] 26) = W9 at *
        generalize w4.heap.size = b11 at *
        have hyc := HMy.out.box.cell
        have hbcy := HMz.out.box.cell
        go_wp2_with fail
        refine HMy.out.doneI.mono ?_
        rintro e w8 ⟨rfl, hb8⟩
        have HMy8 := Lib.hid (HMy.out.below hb8)
        have HM8 := Lib.hid (HMz.out.below hb8)
        have HV8 := Lib.hid (HVz.out.keep hb8)
        rw [HDY.out]
        clear hb8 hbcy hyc
        have hyc := HMy8.out.box.cell
        go_wp2_with fail
        refine HMy8.out.left.mono ?_
        rintro e w9 ⟨rfl, hb9⟩
        have HM9 := Lib.hid (HM8.out.below hb9)
        have HV9 := Lib.hid (HV8.out.keep hb9)
        rw [HLY.out]
        clear hb9 hyc
        go_wp2_with fail
        go_roundw
        case rel => exact ⟨k + 1, by omega, by go_num, HM9, HV9⟩
        case measure => simp [intOf]; omega
      · refine AllReadyH.cons (o := ?_) ?_ (fun K hK => ?_) ?_
        rotate_left 1
        · simp only [List.getElem?_toArray, List.getElem?_cons_succ, List.getElem?_cons_zero]; rfl
        · have HBA : Hid (Below wr.heap.size wr (wr.alloc (.cells #[.slice none 0 0, .slice none 0 0] 26)).drew) := (below_all wr (.cells #[.slice none 0 0, .slice none 0 0] 26)).drew
          go_simp
          skip
          refine hK.out _ _ ?_ (fun hHeld => ?_)
          · try dsimp only
            exact HSK.out _ HBA.out
          clear hK K
          try simp only [Act.put, List.setIfInBounds_toArray, List.set_cons_zero, List.set_cons_succ]
          have HXA : Hid (Bx (wr.alloc (.cells #[.slice none 0 0, .slice none 0 0] 26)).drew wr.heap.size 26 #[.slice none 0 0, .slice none 0 0]) := Bx.new wr _ _
          have hza : (wr.alloc (.cells #[.slice none 0 0, .slice none 0 0] 26)).drew.heap.size = wr.heap.size + 1 := by simp
          generalize (wr.alloc (.cells #[.slice none 0 0, .slice none 0 0] 26)).drew = WA at *
          refine wpAnyH_ready (rs := [5]) (by kernel_rfl) (by simp) ?_
          refine AllReadyH.cons (o := ?_) ?_ (fun K hK => ?_) AllReadyH.nil
          rotate_left 1
          · simp only [List.getElem?_toArray, List.getElem?_cons_succ, List.getElem?_cons_zero]; rfl
          go_simp
          go_at_call 15
          go_must (refine Calls.mono (HST.out _ (HM.out.below HBA.out)) ?_)
          rintro e w4 ⟨v, rfl, hl, hb⟩
          have HX4 := Lib.hid (HXA.out.below hb HXA.out.lt)
          have HL4 := Lib.hid hl
          have HB4 := Lib.hid (HBA.out.trans (hb.mono HBA.out.size))
          have hxc4 := HX4.out.cell
          have hxf4 := HX4.out.free
          obtain ⟨p1, e1, p2, e2, rfl, _⟩ := hl
          clear hb
          refine hK.out _ _ ?_ (fun hHeld => ?_)
          · try dsimp only
            exact HSK.out _ HB4.out
          clear hK K
          try simp only [Act.put, List.setIfInBounds_toArray, List.set_cons_zero, List.set_cons_succ]
          refine wpAnyH_take (i := 6) (oi := ?_) (v := ?_) ?_ (by kernel_rfl) (by kernel_rfl) (by kernel_rfl) ?_ ?_ (by assumption) ?_
          rotate_left 2
          · simp only [List.getElem?_toArray, List.getElem?_cons_succ, List.getElem?_cons_zero]; rfl
          · exact fun _ _ _ h => h
          · first
              | (refine Or.inr ⟨?_, ?_⟩ <;> rfl)
              | (refine Or.inl ⟨?_, ?_⟩; · rfl
                 intro w hSw; (try dsimp only at hSw); go_simp; (try with_reducible rfl); done)
          try simp only [Act.put, List.setIfInBounds_toArray, List.set_cons_zero, List.set_cons_succ]
          refine wpAnyH_take (i := 7) (oi := ?_) (v := ?_) ?_ (by kernel_rfl) (by kernel_rfl) (by kernel_rfl) ?_ ?_ (by assumption) ?_
          rotate_left 2
          · simp only [List.getElem?_toArray, List.getElem?_cons_succ, List.getElem?_cons_zero]; rfl
          · exact fun _ _ _ h => h
          · first
              | (refine Or.inr ⟨?_, ?_⟩ <;> rfl)
              | (refine Or.inl ⟨?_, ?_⟩; · rfl
                 intro w hSw; (try dsimp only at hSw); go_simp; (try with_reducible rfl); done)
          try simp only [Act.put, List.setIfInBounds_toArray, List.set_cons_zero, List.set_cons_succ]
          refine wpAnyH_take (i := 8) (oi := ?_) (v := ?_) ?_ (by kernel_rfl) (by kernel_rfl) (by kernel_rfl) ?_ ?_ (by assumption) ?_
          rotate_left 2
          · simp only [List.getElem?_toArray, List.getElem?_cons_succ, List.getElem?_cons_zero]; rfl
          · exact fun _ _ _ h => h
          · first
              | (refine Or.inr ⟨?_, ?_⟩ <;> rfl)
              | (refine Or.inl ⟨?_, ?_⟩; · rfl
                 intro w hSw; (try dsimp only at hSw); go_simp; (try with_reducible rfl); done)
          try simp only [Act.put, List.setIfInBounds_toArray, List.set_cons_zero, List.set_cons_succ]
          refine wpAnyH_ready (rs := [10]) (by kernel_rfl) (by simp) ?_
          refine AllReadyH.cons (o := ?_) ?_ (fun K hK => ?_) AllReadyH.nil
          rotate_left 1
          · simp only [List.getElem?_toArray, List.getElem?_cons_succ, List.getElem?_cons_zero]; rfl
          go_simp
          skip
          refine hK.out _ _ ?_ (fun hHeld => ?_)
          · try dsimp only
            exact HSK.out _ ((HB4.out.setCell (Nat.le_refl _) _).setCell (Nat.le_refl _) _)
          clear hK K
          try simp only [Act.put, List.setIfInBounds_toArray, List.set_cons_zero, List.set_cons_succ]
          refine wpAnyH_take (i := 11) (oi := ?_) (v := ?_) ?_ (by kernel_rfl) (by kernel_rfl) (by kernel_rfl) ?_ ?_ (by assumption) ?_
          rotate_left 2
          · simp only [List.getElem?_toArray, List.getElem?_cons_succ, List.getElem?_cons_zero]; rfl
          · exact fun _ _ _ h => h
          · first
              | (refine Or.inr ⟨?_, ?_⟩ <;> rfl)
              | (refine Or.inl ⟨?_, ?_⟩; · rfl
                 intro w hSw; (try dsimp only at hSw); go_simp; (try with_reducible rfl); done)
          try simp only [Act.put, List.setIfInBounds_toArray, List.set_cons_zero, List.set_cons_succ]
          refine wpAnyH_done (by kernel_rfl) ?_ _
          have HBs : Hid (Below wr.heap.size wr ((w4.setCell ⟨wr.heap.size, 0, none⟩ (.slice (some ⟨p1, 0, none⟩) y.n e1)).setCell ⟨wr.heap.size, 1, none⟩ (.slice (some ⟨p2, 0, none⟩) y.m e2))) := (HB4.out.setCell (Nat.le_refl _) _).setCell (Nat.le_refl _) _
          have HMz := Lib.hid (HM.out.below HBs.out)
          have HVz := Lib.hid (HW.out.keep HBs.out)
          have HMy := Lib.hid (LbM.put ((HL4.out.setOther (by omega) _).setOther (by omega) _) (bx2 HX4.out (.slice (some ⟨p1, 0, none⟩) y.n e1) (.slice (some ⟨p2, 0, none⟩) y.m e2)) HMz.out.bl (by omega) (by omega))
          clear HL4 HB4 HSK HX4 HBA HXA HBs hxc4 hxf4
          generalize (w4.setCell ⟨wr.heap.size, 0, none⟩ (.slice (some ⟨p1, 0, none⟩) y.n e1)).setCell ⟨wr.heap.size, 1, none⟩ (.slice (some ⟨p2, 0, none⟩) y.m e2) = W9 at *
          generalize wr.heap.size = b11 at *
          have hyc := HMy.out.box.cell
          have hbcy := HMz.out.box.cell
          go_wp2_with fail
          refine HMy.out.doneI.mono ?_
          rintro e w8 ⟨rfl, hb8⟩
          have HMy8 := Lib.hid (HMy.out.below hb8)
          have HM8 := Lib.hid (HMz.out.below hb8)
          have HV8 := Lib.hid (HVz.out.keep hb8)
          rw [HDY.out]
          clear hb8 hbcy hyc
          have hyc := HMy8.out.box.cell
          go_wp2_with fail
          refine HMy8.out.left.mono ?_
          rintro e w9 ⟨rfl, hb9⟩
          have HM9 := Lib.hid (HM8.out.below hb9)
          have HV9 := Lib.hid (HV8.out.keep hb9)
          rw [HLY.out]
          clear hb9 hyc
          go_wp2_with fail
          go_roundw
          case rel => exact ⟨k + 1, by omega, by go_num, HM9, HV9⟩
          case measure => simp [intOf]; omega
        · exact AllReadyH.nil
    · obtain rfl : k = (lmL x).length := by omega
      have HLL := Lib.hid HM.out.left
      have HWT : Hid (∀ W, LbM w W b3 g1 c1 g2 c2 x → Calls Try.prog 43 #[.agg #[.slice (some ⟨g1, 0, none⟩) x.n c1, .slice (some ⟨g2, 0, none⟩) x.m c2], .int .i64 x.n] W fun e w' => e = .returned (.int .i64 x.m) ∧ Below W.heap.size W w') := fun W hW => (hW.waits HV.out x.n (Nat.le_refl _)).mono fun e w' h => by rw [HCN.out] at h; exact h
      go_wp2_with fail
      refine wp_region_held_drew (S := (fun w' => w'.cell? ⟨b3, 0, none⟩ = some (.slice (some ⟨g1, 0, none⟩) x.n c1) ∧ w'.cell? ⟨b3, 1, none⟩ = some (.slice (some ⟨g2, 0, none⟩) x.m c2))) (by kernel_rfl) ?_ (fun hHeld => ?_)
      · try dsimp only
        go_keep
      refine wpAnyH_take (i := 0) (oi := ?_) (v := ?_) ?_ (by kernel_rfl) (by kernel_rfl) (by kernel_rfl) ?_ ?_ (by assumption) ?_
      rotate_left 2
      · simp only [List.getElem?_toArray, List.getElem?_cons_succ, List.getElem?_cons_zero]; rfl
      · exact fun _ _ _ h => h
      · first
          | (refine Or.inr ⟨?_, ?_⟩ <;> rfl)
          | (refine Or.inl ⟨?_, ?_⟩; · rfl
             intro w hSw; (try dsimp only at hSw); go_simp; (try with_reducible rfl); done)
      try simp only [Act.put, List.setIfInBounds_toArray, List.set_cons_zero, List.set_cons_succ]
      refine wpAnyH_take (i := 1) (oi := ?_) (v := ?_) ?_ (by kernel_rfl) (by kernel_rfl) (by kernel_rfl) ?_ ?_ (by assumption) ?_
      rotate_left 2
      · simp only [List.getElem?_toArray, List.getElem?_cons_succ, List.getElem?_cons_zero]; rfl
      · exact fun _ _ _ h => h
      · first
          | (refine Or.inr ⟨?_, ?_⟩ <;> rfl)
          | (refine Or.inl ⟨?_, ?_⟩; · rfl
             intro w hSw; (try dsimp only at hSw); go_simp; (try with_reducible rfl); done)
      try simp only [Act.put, List.setIfInBounds_toArray, List.set_cons_zero, List.set_cons_succ]
      refine wpAnyH_take (i := 2) (oi := ?_) (v := ?_) ?_ (by kernel_rfl) (by kernel_rfl) (by kernel_rfl) ?_ ?_ (by assumption) ?_
      rotate_left 2
      · simp only [List.getElem?_toArray, List.getElem?_cons_succ, List.getElem?_cons_zero]; rfl
      · exact fun _ _ _ h => h
      · first
          | (refine Or.inr ⟨?_, ?_⟩ <;> rfl)
          | (refine Or.inl ⟨?_, ?_⟩; · rfl
             intro w hSw; (try dsimp only at hSw); go_simp; (try with_reducible rfl); done)
      try simp only [Act.put, List.setIfInBounds_toArray, List.set_cons_zero, List.set_cons_succ]
      refine wpAnyH_take (i := 3) (oi := ?_) (v := ?_) ?_ (by kernel_rfl) (by kernel_rfl) (by kernel_rfl) ?_ ?_ (by assumption) ?_
      rotate_left 2
      · simp only [List.getElem?_toArray, List.getElem?_cons_succ, List.getElem?_cons_zero]; rfl
      · exact fun _ _ _ h => h
      · first
          | (refine Or.inr ⟨?_, ?_⟩ <;> rfl)
          | (refine Or.inl ⟨?_, ?_⟩; · rfl
             intro w hSw; (try dsimp only at hSw); go_simp; (try with_reducible rfl); done)
      try simp only [Act.put, List.setIfInBounds_toArray, List.set_cons_zero, List.set_cons_succ]
      refine wpAnyH_take (i := 4) (oi := ?_) (v := ?_) ?_ (by kernel_rfl) (by kernel_rfl) (by kernel_rfl) ?_ ?_ (by assumption) ?_
      rotate_left 2
      · simp only [List.getElem?_toArray, List.getElem?_cons_succ, List.getElem?_cons_zero]; rfl
      · exact fun _ _ _ h => h
      · first
          | (refine Or.inr ⟨?_, ?_⟩ <;> rfl)
          | (refine Or.inl ⟨?_, ?_⟩; · rfl
             intro w hSw; (try dsimp only at hSw); go_simp; (try with_reducible rfl); done)
      try simp only [Act.put, List.setIfInBounds_toArray, List.set_cons_zero, List.set_cons_succ]
      refine wpAnyH_take (i := 5) (oi := ?_) (v := ?_) ?_ (by kernel_rfl) (by kernel_rfl) (by kernel_rfl) ?_ ?_ (by assumption) ?_
      rotate_left 2
      · simp only [List.getElem?_toArray, List.getElem?_cons_succ, List.getElem?_cons_zero]; rfl
      · exact fun _ _ _ h => h
      · first
          | (refine Or.inr ⟨?_, ?_⟩ <;> rfl)
          | (refine Or.inl ⟨?_, ?_⟩; · rfl
             intro w hSw; (try dsimp only at hSw); go_simp; (try with_reducible rfl); done)
      try simp only [Act.put, List.setIfInBounds_toArray, List.set_cons_zero, List.set_cons_succ]
      refine wpAnyH_take (i := 6) (oi := ?_) (v := ?_) ?_ (by kernel_rfl) (by kernel_rfl) (by kernel_rfl) ?_ ?_ (by assumption) ?_
      rotate_left 2
      · simp only [List.getElem?_toArray, List.getElem?_cons_succ, List.getElem?_cons_zero]; rfl
      · exact fun _ _ _ h => h
      · first
          | (refine Or.inr ⟨?_, ?_⟩ <;> rfl)
          | (refine Or.inl ⟨?_, ?_⟩; · rfl
             intro w hSw; (try dsimp only at hSw); go_simp; (try with_reducible rfl); done)
      try simp only [Act.put, List.setIfInBounds_toArray, List.set_cons_zero, List.set_cons_succ]
      refine wpAnyH_take (i := 7) (oi := ?_) (v := ?_) ?_ (by kernel_rfl) (by kernel_rfl) (by kernel_rfl) ?_ ?_ (by assumption) ?_
      rotate_left 2
      · simp only [List.getElem?_toArray, List.getElem?_cons_succ, List.getElem?_cons_zero]; rfl
      · exact fun _ _ _ h => h
      · first
          | (refine Or.inr ⟨?_, ?_⟩ <;> rfl)
          | (refine Or.inl ⟨?_, ?_⟩; · rfl
             intro w hSw; (try dsimp only at hSw); go_simp; (try with_reducible rfl); done)
      try simp only [Act.put, List.setIfInBounds_toArray, List.set_cons_zero, List.set_cons_succ]
      refine wpAnyH_ready (rs := [8]) (by kernel_rfl) (by simp) ?_
      refine AllReadyH.cons (o := ?_) ?_ (fun K hK => ?_) AllReadyH.nil
      rotate_left 1
      · simp only [List.getElem?_toArray, List.getElem?_cons_succ, List.getElem?_cons_zero]; rfl
      go_simp
      go_at_call 32
      go_must (refine Calls.mono (HM.out.drew.left) ?_)
      rintro e w7 ⟨rfl, hb7⟩
      have HM7 := Lib.hid (HM.out.drew.below hb7)
      rw [HLO.out]
      have hbc7 := HM7.out.box.cell
      clear hb7 hbc
      refine hK.out _ _ ?_ (fun hHeld => ?_)
      · try dsimp only
        go_keep
      clear hK K
      try simp only [Act.put, List.setIfInBounds_toArray, List.set_cons_zero, List.set_cons_succ]
      refine wpAnyH_take (i := 9) (oi := ?_) (v := ?_) ?_ (by kernel_rfl) (by kernel_rfl) (by kernel_rfl) ?_ ?_ (by assumption) ?_
      rotate_left 2
      · simp only [List.getElem?_toArray, List.getElem?_cons_succ, List.getElem?_cons_zero]; rfl
      · exact fun _ _ _ h => h
      · first
          | (refine Or.inr ⟨?_, ?_⟩ <;> rfl)
          | (refine Or.inl ⟨?_, ?_⟩; · rfl
             intro w hSw; (try dsimp only at hSw); go_simp; (try with_reducible rfl); done)
      try simp only [Act.put, List.setIfInBounds_toArray, List.set_cons_zero, List.set_cons_succ]
      refine wpAnyH_take (i := 10) (oi := ?_) (v := ?_) ?_ (by kernel_rfl) (by kernel_rfl) (by kernel_rfl) ?_ ?_ (by assumption) ?_
      rotate_left 2
      · simp only [List.getElem?_toArray, List.getElem?_cons_succ, List.getElem?_cons_zero]; rfl
      · exact fun _ _ _ h => h
      · first
          | (refine Or.inr ⟨?_, ?_⟩ <;> rfl)
          | (refine Or.inl ⟨?_, ?_⟩; · rfl
             intro w hSw; (try dsimp only at hSw); go_simp; (try with_reducible rfl); done)
      try simp only [Act.put, List.setIfInBounds_toArray, List.set_cons_zero, List.set_cons_succ]
      refine wpAnyH_take (i := 11) (oi := ?_) (v := ?_) ?_ (by kernel_rfl) (by kernel_rfl) (by kernel_rfl) ?_ ?_ (by assumption) ?_
      rotate_left 2
      · simp only [List.getElem?_toArray, List.getElem?_cons_succ, List.getElem?_cons_zero]; rfl
      · exact fun _ _ _ h => h
      · first
          | (refine Or.inr ⟨?_, ?_⟩ <;> rfl)
          | (refine Or.inl ⟨?_, ?_⟩; · rfl
             intro w hSw; (try dsimp only at hSw); go_simp; (try with_reducible rfl); done)
      try simp only [Act.put, List.setIfInBounds_toArray, List.set_cons_zero, List.set_cons_succ]
      refine wpAnyH_take (i := 12) (oi := ?_) (v := ?_) ?_ (by kernel_rfl) (by kernel_rfl) (by kernel_rfl) ?_ ?_ (by assumption) ?_
      rotate_left 2
      · simp only [List.getElem?_toArray, List.getElem?_cons_succ, List.getElem?_cons_zero]; rfl
      · exact fun _ _ _ h => h
      · first
          | (refine Or.inr ⟨?_, ?_⟩ <;> rfl)
          | (refine Or.inl ⟨?_, ?_⟩; · rfl
             intro w hSw; (try dsimp only at hSw); go_simp; (try with_reducible rfl); done)
      try simp only [Act.put, List.setIfInBounds_toArray, List.set_cons_zero, List.set_cons_succ]
      refine wpAnyH_take (i := 13) (oi := ?_) (v := ?_) ?_ (by kernel_rfl) (by kernel_rfl) (by kernel_rfl) ?_ ?_ (by assumption) ?_
      rotate_left 2
      · simp only [List.getElem?_toArray, List.getElem?_cons_succ, List.getElem?_cons_zero]; rfl
      · exact fun _ _ _ h => h
      · first
          | (refine Or.inr ⟨?_, ?_⟩ <;> rfl)
          | (refine Or.inl ⟨?_, ?_⟩; · rfl
             intro w hSw; (try dsimp only at hSw); go_simp; (try with_reducible rfl); done)
      try simp only [Act.put, List.setIfInBounds_toArray, List.set_cons_zero, List.set_cons_succ]
      refine wpAnyH_take (i := 14) (oi := ?_) (v := ?_) ?_ (by kernel_rfl) (by kernel_rfl) (by kernel_rfl) ?_ ?_ (by assumption) ?_
      rotate_left 2
      · simp only [List.getElem?_toArray, List.getElem?_cons_succ, List.getElem?_cons_zero]; rfl
      · exact fun _ _ _ h => h
      · first
          | (refine Or.inr ⟨?_, ?_⟩ <;> rfl)
          | (refine Or.inl ⟨?_, ?_⟩; · rfl
             intro w hSw; (try dsimp only at hSw); go_simp; (try with_reducible rfl); done)
      try simp only [Act.put, List.setIfInBounds_toArray, List.set_cons_zero, List.set_cons_succ]
      refine wpAnyH_take (i := 15) (oi := ?_) (v := ?_) ?_ (by kernel_rfl) (by kernel_rfl) (by kernel_rfl) ?_ ?_ (by assumption) ?_
      rotate_left 2
      · simp only [List.getElem?_toArray, List.getElem?_cons_succ, List.getElem?_cons_zero]; rfl
      · exact fun _ _ _ h => h
      · first
          | (refine Or.inr ⟨?_, ?_⟩ <;> rfl)
          | (refine Or.inl ⟨?_, ?_⟩; · rfl
             intro w hSw; (try dsimp only at hSw); go_simp; (try with_reducible rfl); done)
      try simp only [Act.put, List.setIfInBounds_toArray, List.set_cons_zero, List.set_cons_succ]
      refine wpAnyH_take (i := 17) (oi := ?_) (v := ?_) ?_ (by kernel_rfl) (by kernel_rfl) (by kernel_rfl) ?_ ?_ (by assumption) ?_
      rotate_left 2
      · simp only [List.getElem?_toArray, List.getElem?_cons_succ, List.getElem?_cons_zero]; rfl
      · exact fun _ _ _ h => h
      · first
          | (refine Or.inr ⟨?_, ?_⟩ <;> rfl)
          | (refine Or.inl ⟨?_, ?_⟩; · rfl
             intro w hSw; (try dsimp only at hSw); go_simp; (try with_reducible rfl); done)
      try simp only [Act.put, List.setIfInBounds_toArray, List.set_cons_zero, List.set_cons_succ]
      refine wpAnyH_take (i := 18) (oi := ?_) (v := ?_) ?_ (by kernel_rfl) (by kernel_rfl) (by kernel_rfl) ?_ ?_ (by assumption) ?_
      rotate_left 2
      · simp only [List.getElem?_toArray, List.getElem?_cons_succ, List.getElem?_cons_zero]; rfl
      · exact fun _ _ _ h => h
      · first
          | (refine Or.inr ⟨?_, ?_⟩ <;> rfl)
          | (refine Or.inl ⟨?_, ?_⟩; · rfl
             intro w hSw; (try dsimp only at hSw); go_simp; (try with_reducible rfl); done)
      try simp only [Act.put, List.setIfInBounds_toArray, List.set_cons_zero, List.set_cons_succ]
      refine wpAnyH_take (i := 19) (oi := ?_) (v := ?_) ?_ (by kernel_rfl) (by kernel_rfl) (by kernel_rfl) ?_ ?_ (by assumption) ?_
      rotate_left 2
      · simp only [List.getElem?_toArray, List.getElem?_cons_succ, List.getElem?_cons_zero]; rfl
      · exact fun _ _ _ h => h
      · first
          | (refine Or.inr ⟨?_, ?_⟩ <;> rfl)
          | (refine Or.inl ⟨?_, ?_⟩; · rfl
             intro w hSw; (try dsimp only at hSw); go_simp; (try with_reducible rfl); done)
      try simp only [Act.put, List.setIfInBounds_toArray, List.set_cons_zero, List.set_cons_succ]
      refine wpAnyH_ready (rs := [16]) (by kernel_rfl) (by simp) ?_
      refine AllReadyH.cons (o := ?_) ?_ (fun K hK => ?_) AllReadyH.nil
      rotate_left 1
      · simp only [List.getElem?_toArray, List.getElem?_cons_succ, List.getElem?_cons_zero]; rfl
      go_simp
      go_at_call 43
      go_must (refine Calls.mono (HWT.out _ HM7.out) ?_)
      rintro e w8 ⟨rfl, hb8⟩
      have HM8 := Lib.hid (HM7.out.below hb8)
      have hbc8 := HM8.out.box.cell
      clear hb8 hbc7
      refine hK.out _ _ ?_ (fun hHeld => ?_)
      · try dsimp only
        go_keep
      clear hK K
      try simp only [Act.put, List.setIfInBounds_toArray, List.set_cons_zero, List.set_cons_succ]
      refine wpAnyH_take (i := 20) (oi := ?_) (v := ?_) ?_ (by kernel_rfl) (by kernel_rfl) (by kernel_rfl) ?_ ?_ (by assumption) ?_
      rotate_left 2
      · simp only [List.getElem?_toArray, List.getElem?_cons_succ, List.getElem?_cons_zero]; rfl
      · exact fun _ _ _ h => h
      · first
          | (refine Or.inr ⟨?_, ?_⟩ <;> rfl)
          | (refine Or.inl ⟨?_, ?_⟩; · rfl
             intro w hSw; (try dsimp only at hSw); go_simp; (try with_reducible rfl); done)
      try simp only [Act.put, List.setIfInBounds_toArray, List.set_cons_zero, List.set_cons_succ]
      refine wpAnyH_take (i := 21) (oi := ?_) (v := ?_) ?_ (by kernel_rfl) (by kernel_rfl) (by kernel_rfl) ?_ ?_ (by assumption) ?_
      rotate_left 2
      · simp only [List.getElem?_toArray, List.getElem?_cons_succ, List.getElem?_cons_zero]; rfl
      · exact fun _ _ _ h => h
      · first
          | (refine Or.inr ⟨?_, ?_⟩ <;> rfl)
          | (refine Or.inl ⟨?_, ?_⟩; · rfl
             intro w hSw; (try dsimp only at hSw); go_simp; (try with_reducible rfl); done)
      try simp only [Act.put, List.setIfInBounds_toArray, List.set_cons_zero, List.set_cons_succ]
      refine wpAnyH_take (i := 22) (oi := ?_) (v := ?_) ?_ (by kernel_rfl) (by kernel_rfl) (by kernel_rfl) ?_ ?_ (by assumption) ?_
      rotate_left 2
      · simp only [List.getElem?_toArray, List.getElem?_cons_succ, List.getElem?_cons_zero]; rfl
      · exact fun _ _ _ h => h
      · first
          | (refine Or.inr ⟨?_, ?_⟩ <;> rfl)
          | (refine Or.inl ⟨?_, ?_⟩; · rfl
             intro w hSw; (try dsimp only at hSw); go_simp; (try with_reducible rfl); done)
      try simp only [Act.put, List.setIfInBounds_toArray, List.set_cons_zero, List.set_cons_succ]
      refine wpAnyH_done (by kernel_rfl) ?_ _
      go_wp2_with fail
      go_ret
      exact ⟨by simp, HM8.out.bl⟩
end Go.Proofs.Ytbachpfgakjncaa
