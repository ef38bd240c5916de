/-
  The law FnLineLeft: the walk.
-/
import Derived.Test.YtbachpfgakjncaaVz
namespace Go.Proofs.Ytbachpfgakjncaa
open Go.RowKit

/-- some move of the first k saves one, or none is needed -/
def lsF (x : Ln) (k : Nat) : Bool := decide (lefS x x.n = 0) || ((lmL x).take k).any fun z => decide (lefS x x.n - lefS (mvTo x z.1 z.2) x.n = 1)
theorem lsF_zero (x : Ln) : lsF x 0 = decide (lefS x x.n = 0) := by simp [lsF]
theorem lsF_succ {x : Ln} {k : Nat} (h : k < (lmL x).length) : lsF x (k + 1) = (lsF x k || decide (lefS x x.n - lefS (mvTo x ((lmL x)[k]).1 ((lmL x)[k]).2) x.n = 1)) := by
  unfold lsF
  rw [List.take_succ_eq_append_getElem h, List.any_append, Bool.or_assoc]
  simp
theorem lsF_all {x : Ln} (hv : vldL x = true) : lsF x (lmL x).length = true := by
  unfold lsF
  rw [List.take_length, Bool.or_eq_true, decide_eq_true_eq, List.any_eq_true]
  rcases Int.lt_or_le 0 (lefS x x.n) with h | h
  · right
    obtain ⟨z, hz, ho, hl⟩ := near_ex hv h
    refine ⟨z, by unfold lmL; rw [hv]; exact hz, ?_⟩
    rw [decide_eq_true_eq]
    have := lef_one hv ho
    have e : (mvTo x z.1 z.2).n = x.n := rfl
    omega
  · left
    have := (lefS_bd x x.n).1
    omega
set_option linter.unusedSimpArgs false in
set_option maxRecDepth 100000 in
set_option maxHeartbeats 4000000 in
theorem lawLineLeft_any (ao : Option Addr) (n c : Nat) (w : World) (hB : BSl w ao n) (hnc : n ≤ c) (hn : n ≤ 9223372036854775807) :
    Calls Try.prog 6 #[.slice ao n c] w fun e w' => e = .returned (.bool true) ∧ Below w.heap.size w w' := by
  have HBS := Lib.hid hB
  clear hB
  by_cases hlong : 1048576 < n
  · go_enter Try.func6, Try.ntmps6
    go_wp2_with fail
    go_ret
    exact ⟨rfl, Below.refl _ _⟩
  go_enter Try.func6, Try.ntmps6
  go_wp2_with fail
  refine (drawLLeft_any ao n c _ hnc hn HBS.out).mono ?_
  rintro e w1 ⟨v, x, rfl, hl, hx1, hx2, hx3, hb1⟩
  have HL1 := Lib.hid hl
  have HB1 := Lib.hid hb1
  obtain ⟨g1, c1, g2, c2, rfl, _⟩ := hl
  clear hb1
  have HM1 : Hid (LbM w (w1.alloc (.cells #[.slice (some ⟨g1, 0, none⟩) x.n c1, .slice (some ⟨g2, 0, none⟩) x.m c2] 26)) w1.heap.size g1 c1 g2 c2 x) := LbM.new HB1.out HL1.out (by omega) (by omega)
  clear HL1 HB1
  go_wp2_with fail
  generalize w1.alloc (.cells #[.slice (some ⟨g1, 0, none⟩) x.n c1, .slice (some ⟨g2, 0, none⟩) x.m c2] 26) = w2 at *
  generalize w1.heap.size = b3 at *
  have hbc := HM1.out.box.cell
  refine (HM1.out.left).mono ?_
  rintro e w3 ⟨rfl, hb⟩
  have HM3 := Lib.hid (HM1.out.below hb)
  clear hb hbc
  have hbc := HM3.out.box.cell
  go_wp2_with fail
  refine (HM3.out.leftS).mono ?_
  rintro e w4 ⟨rfl, hb⟩
  have HM4 := Lib.hid (HM3.out.below hb)
  clear hb hbc
  have hbc := HM4.out.box.cell
  cases hv : vldL x
  · rw [show lefO x = -1 from by unfold lefO; rw [hv]; rfl]
    clear hv
    go_wp2_with fail
    go_ret
    exact ⟨rfl, HM4.out.bl⟩
  have hlb := lefS_135 hv
  have hlp := (lefS_bd x x.n).1
  have HDN : Hid (donL x = decide (lefS x x.n = 0)) := done_left hv
  have HFL : Hid (((fnL x).length : Int) = lefS x x.n) := by
    obtain ⟨q, hq⟩ := lefS_nn x
    show _ = _
    rw [show fnL x = finX x from if_pos hv, (fin_run q x hv hq).1, hq]
  rw [lefO_v hv]
  have HV := Lib.hid hv
  have HLA := Lib.hid (lsF_all hv)
  have HL0 := Lib.hid (lsF_zero x)
  obtain ⟨lf, hlf⟩ : ∃ lf, lf = lefS x x.n := ⟨_, rfl⟩
  have HLF := Lib.hid hlf
  rw [← hlf] at hlb hlp ⊢
  have hle : (lf != lf) = false := by simp
  clear hv hlf
  go_wp2_with fail
  refine (HM4.out.finI).mono ?_
  rintro e w5 ⟨⟨v, rfl, hvm⟩, hb⟩
  have HM5 := Lib.hid (HM4.out.below hb)
  clear hb hbc
  have hbc := HM5.out.box.cell
  obtain ⟨aof, cf, rfl⟩ := hvm.shape
  rw [HV.out]
  clear hvm
  go_wp2_with fail
  refine (HM5.out.movI).mono ?_
  rintro e w6 ⟨⟨v, rfl, hvm⟩, hb⟩
  have HM6 := Lib.hid (HM5.out.below hb)
  clear hb hbc
  have hbc := HM6.out.box.cell
  have HVM := Lib.hid hvm
  obtain ⟨aom, cm, rfl⟩ := hvm.shape
  clear hvm
  have hml := lmL_len x
  go_wp2_with fail
  clear hbc
  go_loopw [9, 10, 11, 12, 13] (fun l i _ _ _ wr => ∃ k : Nat, k ≤ (lmL x).length ∧ i = .int .i64 k ∧ l = .bool (lsF x k) ∧ Hid (LbM w wr b3 g1 c1 g2 c2 x) ∧ Hid (MvV wr (.slice aom (lmL x).length cm) (lmL x))) (fun _ i _ _ _ _ => (lmL x).length - (intOf i).toNat)
  case atStart => exact ⟨0, Nat.zero_le _, rfl, by rw [HL0.out, ← HLF.out]; first | rfl | (congr 1; done) | (simp; done), HM6, HVM⟩
  case round =>
    obtain ⟨k, hk, rfl, rfl, HM, HW⟩ := hrel
    have hbc := HM.out.box.cell
    by_cases hlt : k < (lmL x).length
    · obtain ⟨bm, mo, rfl, hm0, hm1⟩ := HW.out.at hlt
      have HNX := Lib.hid (lsF_succ hlt)
      have HSO := Lib.hid (lmL_stO (List.getElem_mem hlt))
      have HOK := Lib.hid (lmL_ok (List.getElem_mem hlt))
      generalize hs : ((lmL x)[k]).1 = s at *
      generalize hls : ((lmL x)[k]).2 = l at *
      clear hs hls
      have hd1 : lf ≤ lefS (mvTo x s l) x.n + 1 := by have h := lef_one HOK.out.1 HOK.out.2; rw [← HLF.out] at h; exact h
      have hdb := (lefS_135 (vld_mv HOK.out.1 HOK.out.2))
      have hdc := (lefS_bd (mvTo x s l) x.n).1
      have HLO : Hid (lefO (mvTo x s l) = lefS (mvTo x s l) x.n) := lefO_v (vld_mv HOK.out.1 HOK.out.2)
      rw [← HLF.out, ← HLO.out] at HNX
      rw [← HLO.out] at hd1 hdc
      rw [show lefS (mvTo x s l) (mvTo x s l).n = lefO (mvTo x s l) from HLO.out.symm] at hdb
      have hlb9 : lf ≤ 200 := by omega
      have hlo9 : lefO (mvTo x s l) ≤ 200 := by omega
      have HST : Hid (∀ W, LbM w W b3 g1 c1 g2 c2 x → Calls Try.prog 15 #[.agg #[.slice (some ⟨g1, 0, none⟩) x.n c1, .slice (some ⟨g2, 0, none⟩) x.m c2], .agg #[.int .i64 s, .string l]] W fun e w' => ∃ v, e = .returned (.tuple #[v, .bool true]) ∧ LnO W.heap.size w' v (mvTo x s l) ∧ Below W.heap.size W w') := fun W hW => (hW.step s l).mono fun e w' h => h.some HSO.out
      have hyn : (mvTo x s l).n ≤ 4 := hx2
      have hym : (mvTo x s l).m ≤ 5 := hx3
      generalize hy : mvTo x s l = y at *
      clear hy
      go_wp2_with fail
      refine wp_region_held_drew (S := (fun w' => (w'.cell? ⟨b3, 0, none⟩ = some (.slice (some ⟨g1, 0, none⟩) x.n c1) ∧ w'.cell? ⟨b3, 1, none⟩ = some (.slice (some ⟨g2, 0, none⟩) x.m c2)) ∧ (w'.cell? ⟨bm, mo + k * 2, none⟩ = some (.int .i64 s) ∧ w'.cell? ⟨bm, mo + k * 2 + 1, none⟩ = some (.string l)))) (by kernel_rfl) ?_ (fun hHeld => ?_)
      · try dsimp only
        go_keep
      refine wpAnyH_take (i := 0) (oi := ?_) (v := ?_) ?_ (by kernel_rfl) (by kernel_rfl) (by kernel_rfl) ?_ ?_ (by assumption) ?_
      rotate_left 2
      · simp only [List.getElem?_toArray, List.getElem?_cons_succ, List.getElem?_cons_zero]; rfl
      · exact fun _ _ _ h => h
      · first
          | (refine Or.inr ⟨?_, ?_⟩ <;> rfl)
          | (refine Or.inl ⟨?_, ?_⟩; · rfl
             intro w hSw; (try dsimp only at hSw); go_simp; (try with_reducible rfl); done)
      try simp only [Act.put, List.setIfInBounds_toArray, List.set_cons_zero, List.set_cons_succ]
      refine wpAnyH_take (i := 1) (oi := ?_) (v := ?_) ?_ (by kernel_rfl) (by kernel_rfl) (by kernel_rfl) ?_ ?_ (by assumption) ?_
      rotate_left 2
      · simp only [List.getElem?_toArray, List.getElem?_cons_succ, List.getElem?_cons_zero]; rfl
      · exact fun _ _ _ h => h
      · first
          | (refine Or.inr ⟨?_, ?_⟩ <;> rfl)
          | (refine Or.inl ⟨?_, ?_⟩; · rfl
             intro w hSw; (try dsimp only at hSw); go_simp; (try with_reducible rfl); done)
      try simp only [Act.put, List.setIfInBounds_toArray, List.set_cons_zero, List.set_cons_succ]
      refine wpAnyH_take (i := 2) (oi := ?_) (v := ?_) ?_ (by kernel_rfl) (by kernel_rfl) (by kernel_rfl) ?_ ?_ (by assumption) ?_
      rotate_left 2
      · simp only [List.getElem?_toArray, List.getElem?_cons_succ, List.getElem?_cons_zero]; rfl
      · exact fun _ _ _ h => h
      · first
          | (refine Or.inr ⟨?_, ?_⟩ <;> rfl)
          | (refine Or.inl ⟨?_, ?_⟩; · rfl
             intro w hSw; (try dsimp only at hSw); go_simp; (try with_reducible rfl); done)
      try simp only [Act.put, List.setIfInBounds_toArray, List.set_cons_zero, List.set_cons_succ]
      refine wpAnyH_take (i := 3) (oi := ?_) (v := ?_) ?_ (by kernel_rfl) (by kernel_rfl) (by kernel_rfl) ?_ ?_ (by assumption) ?_
      rotate_left 2
      · simp only [List.getElem?_toArray, List.getElem?_cons_succ, List.getElem?_cons_zero]; rfl
      · exact fun _ _ _ h => h
      · first
          | (refine Or.inr ⟨?_, ?_⟩ <;> rfl)
          | (refine Or.inl ⟨?_, ?_⟩; · rfl
             intro w hSw; (try dsimp only at hSw); go_simp; (try with_reducible rfl); done)
      try simp only [Act.put, List.setIfInBounds_toArray, List.set_cons_zero, List.set_cons_succ]
      refine wpAnyH_take (i := 4) (oi := ?_) (v := ?_) ?_ (by kernel_rfl) (by kernel_rfl) (by kernel_rfl) ?_ ?_ (by assumption) ?_
      rotate_left 2
      · simp only [List.getElem?_toArray, List.getElem?_cons_succ, List.getElem?_cons_zero]; rfl
      · exact fun _ _ _ h => h
      · first
          | (refine Or.inr ⟨?_, ?_⟩ <;> rfl)
          | (refine Or.inl ⟨?_, ?_⟩; · rfl
             intro w hSw; (try dsimp only at hSw); go_simp; (try with_reducible rfl); done)
      try simp only [Act.put, List.setIfInBounds_toArray, List.set_cons_zero, List.set_cons_succ]
      have HSK : Hid (∀ W, Below wr.heap.size wr W → (W.cell? ⟨b3, 0, none⟩ = some (.slice (some ⟨g1, 0, none⟩) x.n c1) ∧ W.cell? ⟨b3, 1, none⟩ = some (.slice (some ⟨g2, 0, none⟩) x.m c2)) ∧ (W.cell? ⟨bm, mo + k * 2, none⟩ = some (.int .i64 s) ∧ W.cell? ⟨bm, mo + k * 2 + 1, none⟩ = some (.string l))) := fun W hb => by
        have h1 := (HM.out.below hb).box.cell
        have h2 : bm < wr.heap.size := World.block_lt_of_cell? wr ⟨bm, mo + k * 2, none⟩ hm0
        exact ⟨⟨h1 0, h1 1⟩, by rw [hb.cell (p := ⟨bm, mo + k * 2, none⟩) h2]; exact hm0, by rw [hb.cell (p := ⟨bm, mo + k * 2 + 1, none⟩) h2]; exact hm1⟩
      clear hbc hm0 hm1
      refine wpAnyH_ready (rs := [5, 9]) (by kernel_rfl) (by simp) ?_
      refine AllReadyH.cons (o := ?_) ?_ (fun K hK => ?_) ?_
      rotate_left 1
      · simp only [List.getElem?_toArray, List.getElem?_cons_succ, List.getElem?_cons_zero]; rfl
      · go_simp
        go_at_call 15
        go_must (refine Calls.mono (HST.out _ HM.out.drew) ?_)
        rintro e w4 ⟨v, rfl, hl, hb⟩
        replace hb : Below wr.heap.size wr w4 := (Below.refl _ wr).drew.trans hb
        have HL4 := Lib.hid hl
        have HB4 := Lib.hid hb
        obtain ⟨p1, e1, p2, e2, rfl, _⟩ := hl
        clear hb
        refine hK.out _ _ ?_ (fun hHeld => ?_)
        · try dsimp only
          exact HSK.out _ HB4.out
        clear hK K
        try simp only [Act.put, List.setIfInBounds_toArray, List.set_cons_zero, List.set_cons_succ]
        refine wpAnyH_take (i := 6) (oi := ?_) (v := ?_) ?_ (by kernel_rfl) (by kernel_rfl) (by kernel_rfl) ?_ ?_ (by assumption) ?_
        rotate_left 2
        · simp only [List.getElem?_toArray, List.getElem?_cons_succ, List.getElem?_cons_zero]; rfl
        · exact fun _ _ _ h => h
        · first
            | (refine Or.inr ⟨?_, ?_⟩ <;> rfl)
            | (refine Or.inl ⟨?_, ?_⟩; · rfl
               intro w hSw; (try dsimp only at hSw); go_simp; (try with_reducible rfl); done)
        try simp only [Act.put, List.setIfInBounds_toArray, List.set_cons_zero, List.set_cons_succ]
        refine wpAnyH_take (i := 7) (oi := ?_) (v := ?_) ?_ (by kernel_rfl) (by kernel_rfl) (by kernel_rfl) ?_ ?_ (by assumption) ?_
        rotate_left 2
        · simp only [List.getElem?_toArray, List.getElem?_cons_succ, List.getElem?_cons_zero]; rfl
        · exact fun _ _ _ h => h
        · first
            | (refine Or.inr ⟨?_, ?_⟩ <;> rfl)
            | (refine Or.inl ⟨?_, ?_⟩; · rfl
               intro w hSw; (try dsimp only at hSw); go_simp; (try with_reducible rfl); done)
        try simp only [Act.put, List.setIfInBounds_toArray, List.set_cons_zero, List.set_cons_succ]
        refine wpAnyH_take (i := 8) (oi := ?_) (v := ?_) ?_ (by kernel_rfl) (by kernel_rfl) (by kernel_rfl) ?_ ?_ (by assumption) ?_
        rotate_left 2
        · simp only [List.getElem?_toArray, List.getElem?_cons_succ, List.getElem?_cons_zero]; rfl
        · exact fun _ _ _ h => h
        · first
            | (refine Or.inr ⟨?_, ?_⟩ <;> rfl)
            | (refine Or.inl ⟨?_, ?_⟩; · rfl
               intro w hSw; (try dsimp only at hSw); go_simp; (try with_reducible rfl); done)
        try simp only [Act.put, List.setIfInBounds_toArray, List.set_cons_zero, List.set_cons_succ]
        refine wpAnyH_ready (rs := [9]) (by kernel_rfl) (by simp) ?_
        refine AllReadyH.cons (o := ?_) ?_ (fun K hK => ?_) AllReadyH.nil
        rotate_left 1
        · simp only [List.getElem?_toArray, List.getElem?_cons_succ, List.getElem?_cons_zero]; rfl
        go_simp
        skip
        refine hK.out _ _ ?_ (fun hHeld => ?_)
        · try dsimp only
          exact HSK.out _ (HB4.out.alloc HB4.out.size _)
        clear hK K
        try simp only [Act.put, List.setIfInBounds_toArray, List.set_cons_zero, List.set_cons_succ]
        refine wpAnyH_ready (rs := [10]) (by kernel_rfl) (by simp) ?_
        refine AllReadyH.cons (o := ?_) ?_ (fun K hK => ?_) AllReadyH.nil
        rotate_left 1
        · simp only [List.getElem?_toArray, List.getElem?_cons_succ, List.getElem?_cons_zero]; rfl
        go_simp
        skip
        refine hK.out _ _ ?_ (fun hHeld => ?_)
        · try dsimp only
          exact HSK.out _ (HB4.out.alloc HB4.out.size _)
        clear hK K
        try simp only [Act.put, List.setIfInBounds_toArray, List.set_cons_zero, List.set_cons_succ]
        refine wpAnyH_take (i := 11) (oi := ?_) (v := ?_) ?_ (by kernel_rfl) (by kernel_rfl) (by kernel_rfl) ?_ ?_ (by assumption) ?_
        rotate_left 2
        · simp only [List.getElem?_toArray, List.getElem?_cons_succ, List.getElem?_cons_zero]; rfl
        · exact fun _ _ _ h => h
        · first
            | (refine Or.inr ⟨?_, ?_⟩ <;> rfl)
            | (refine Or.inl ⟨?_, ?_⟩; · rfl
               intro w hSw; (try dsimp only at hSw); go_simp; (try with_reducible rfl); done)
        try simp only [Act.put, List.setIfInBounds_toArray, List.set_cons_zero, List.set_cons_succ]
        refine wpAnyH_done (by kernel_rfl) ?_ _
        have HMy : Hid (LbM w (w4.alloc (.cells #[.slice (some ⟨p1, 0, none⟩) y.n e1, .slice (some ⟨p2, 0, none⟩) y.m e2] 26)) w4.heap.size p1 e1 p2 e2 y) := LbM.new (HM.out.below HB4.out).bl HL4.out (by omega) (by omega)
        have HMz : Hid (LbM w (w4.alloc (.cells #[.slice (some ⟨p1, 0, none⟩) y.n e1, .slice (some ⟨p2, 0, none⟩) y.m e2] 26)) b3 g1 c1 g2 c2 x) := (HM.out.below HB4.out).alloc _
        have HVz : Hid (MvV (w4.alloc (.cells #[.slice (some ⟨p1, 0, none⟩) y.n e1, .slice (some ⟨p2, 0, none⟩) y.m e2] 26)) (.slice (some ⟨bm, mo, none⟩) (lmL x).length cm) (lmL x)) := (HW.out.keep HB4.out).keep (below_all _ _)
        clear HL4 HB4 HSK
        generalize w4.alloc (.cells #[.slice (some ⟨p1, 0, none⟩) y.n e1, .slice (some ⟨p2, 0, none⟩) y.m e2] 26) = W9 at *
        generalize w4.heap.size = b11 at *
        have hyc := HMy.out.box.cell
        have hbcy := HMz.out.box.cell
        go_wp2_with fail
        refine HMy.out.left.mono ?_
        rintro e w9 ⟨rfl, hb9⟩
        have HM9 := Lib.hid (HMz.out.below hb9)
        have HV9 := Lib.hid (HVz.out.keep hb9)
        clear hb9 hbcy hyc
        have hwd : IntKind.i64.wrap (lf - lefO y) = lf - lefO y := IntWalk.i64_in _ (by omega)
        by_cases hd : lf - lefO y = 1
        · have hdb : (lf - lefO y == 1) = true := by simp [hd]
          have HLS : Hid (lsF x (k + 1) = true) := by
            show _ = _
            rw [HNX.out, decide_eq_true hd, Bool.or_true]
          cases hls : lsF x k
          all_goals
            have HLK := Lib.hid hls
            clear hls
            go_wp2_with fail
            go_roundw
            case rel => exact ⟨k + 1, by omega, by go_num, by rw [HLS.out], HM9, HV9⟩
            case measure => simp [intOf]; omega
        · have hdb : (lf - lefO y == 1) = false := by simp [hd]
          have HLS : Hid (lsF x (k + 1) = lsF x k) := by
            show _ = _
            rw [HNX.out, decide_eq_false hd, Bool.or_false]
          cases hls : lsF x k
          all_goals
            have HLK := Lib.hid hls
            clear hls
            go_wp2_with fail
            go_roundw
            case rel => exact ⟨k + 1, by omega, by go_num, by rw [HLS.out, HLK.out], HM9, HV9⟩
            case measure => simp [intOf]; omega
      · refine AllReadyH.cons (o := ?_) ?_ (fun K hK => ?_) ?_
        rotate_left 1
        · simp only [List.getElem?_toArray, List.getElem?_cons_succ, List.getElem?_cons_zero]; rfl
        · have HBA : Hid (Below wr.heap.size wr (wr.alloc (.cells #[.slice none 0 0, .slice none 0 0] 26)).drew) := (below_all wr (.cells #[.slice none 0 0, .slice none 0 0] 26)).drew
          go_simp
          skip
          refine hK.out _ _ ?_ (fun hHeld => ?_)
          · try dsimp only
            exact HSK.out _ HBA.out
          clear hK K
          try simp only [Act.put, List.setIfInBounds_toArray, List.set_cons_zero, List.set_cons_succ]
          have HXA : Hid (Bx (wr.alloc (.cells #[.slice none 0 0, .slice none 0 0] 26)).drew wr.heap.size 26 #[.slice none 0 0, .slice none 0 0]) := Bx.new wr _ _
          have hza : (wr.alloc (.cells #[.slice none 0 0, .slice none 0 0] 26)).drew.heap.size = wr.heap.size + 1 := by simp
          generalize (wr.alloc (.cells #[.slice none 0 0, .slice none 0 0] 26)).drew = WA at *
          refine wpAnyH_ready (rs := [5]) (by kernel_rfl) (by simp) ?_
          refine AllReadyH.cons (o := ?_) ?_ (fun K hK => ?_) AllReadyH.nil
          rotate_left 1
          · simp only [List.getElem?_toArray, List.getElem?_cons_succ, List.getElem?_cons_zero]; rfl
          go_simp
          go_at_call 15
          go_must (refine Calls.mono (HST.out _ (HM.out.below HBA.out)) ?_)
          rintro e w4 ⟨v, rfl, hl, hb⟩
          have HX4 := Lib.hid (HXA.out.below hb HXA.out.lt)
          have HL4 := Lib.hid hl
          have HB4 := Lib.hid (HBA.out.trans (hb.mono HBA.out.size))
          have hxc4 := HX4.out.cell
          have hxf4 := HX4.out.free
          obtain ⟨p1, e1, p2, e2, rfl, _⟩ := hl
          clear hb
          refine hK.out _ _ ?_ (fun hHeld => ?_)
          · try dsimp only
            exact HSK.out _ HB4.out
          clear hK K
          try simp only [Act.put, List.setIfInBounds_toArray, List.set_cons_zero, List.set_cons_succ]
          refine wpAnyH_take (i := 6) (oi := ?_) (v := ?_) ?_ (by kernel_rfl) (by kernel_rfl) (by kernel_rfl) ?_ ?_ (by assumption) ?_
          rotate_left 2
          · simp only [List.getElem?_toArray, List.getElem?_cons_succ, List.getElem?_cons_zero]; rfl
          · exact fun _ _ _ h => h
          · first
              | (refine Or.inr ⟨?_, ?_⟩ <;> rfl)
              | (refine Or.inl ⟨?_, ?_⟩; · rfl
                 intro w hSw; (try dsimp only at hSw); go_simp; (try with_reducible rfl); done)
          try simp only [Act.put, List.setIfInBounds_toArray, List.set_cons_zero, List.set_cons_succ]
          refine wpAnyH_take (i := 7) (oi := ?_) (v := ?_) ?_ (by kernel_rfl) (by kernel_rfl) (by kernel_rfl) ?_ ?_ (by assumption) ?_
          rotate_left 2
          · simp only [List.getElem?_toArray, List.getElem?_cons_succ, List.getElem?_cons_zero]; rfl
          · exact fun _ _ _ h => h
          · first
              | (refine Or.inr ⟨?_, ?_⟩ <;> rfl)
              | (refine Or.inl ⟨?_, ?_⟩; · rfl
                 intro w hSw; (try dsimp only at hSw); go_simp; (try with_reducible rfl); done)
          try simp only [Act.put, List.setIfInBounds_toArray, List.set_cons_zero, List.set_cons_succ]
          refine wpAnyH_take (i := 8) (oi := ?_) (v := ?_) ?_ (by kernel_rfl) (by kernel_rfl) (by kernel_rfl) ?_ ?_ (by assumption) ?_
          rotate_left 2
          · simp only [List.getElem?_toArray, List.getElem?_cons_succ, List.getElem?_cons_zero]; rfl
          · exact fun _ _ _ h => h
          · first
              | (refine Or.inr ⟨?_, ?_⟩ <;> rfl)
              | (refine Or.inl ⟨?_, ?_⟩; · rfl
                 intro w hSw; (try dsimp only at hSw); go_simp; (try with_reducible rfl); done)
          try simp only [Act.put, List.setIfInBounds_toArray, List.set_cons_zero, List.set_cons_succ]
          refine wpAnyH_ready (rs := [10]) (by kernel_rfl) (by simp) ?_
          refine AllReadyH.cons (o := ?_) ?_ (fun K hK => ?_) AllReadyH.nil
          rotate_left 1
          · simp only [List.getElem?_toArray, List.getElem?_cons_succ, List.getElem?_cons_zero]; rfl
          go_simp
          skip
          refine hK.out _ _ ?_ (fun hHeld => ?_)
          · try dsimp only
            exact HSK.out _ ((HB4.out.setCell (Nat.le_refl _) _).setCell (Nat.le_refl _) _)
          clear hK K
          try simp only [Act.put, List.setIfInBounds_toArray, List.set_cons_zero, List.set_cons_succ]
          refine wpAnyH_take (i := 11) (oi := ?_) (v := ?_) ?_ (by kernel_rfl) (by kernel_rfl) (by kernel_rfl) ?_ ?_ (by assumption) ?_
          rotate_left 2
          · simp only [List.getElem?_toArray, List.getElem?_cons_succ, List.getElem?_cons_zero]; rfl
          · exact fun _ _ _ h => h
          · first
              | (refine Or.inr ⟨?_, ?_⟩ <;> rfl)
              | (refine Or.inl ⟨?_, ?_⟩; · rfl
                 intro w hSw; (try dsimp only at hSw); go_simp; (try with_reducible rfl); done)
          try simp only [Act.put, List.setIfInBounds_toArray, List.set_cons_zero, List.set_cons_succ]
          refine wpAnyH_done (by kernel_rfl) ?_ _
          have HBs : Hid (Below wr.heap.size wr ((w4.setCell ⟨wr.heap.size, 0, none⟩ (.slice (some ⟨p1, 0, none⟩) y.n e1)).setCell ⟨wr.heap.size, 1, none⟩ (.slice (some ⟨p2, 0, none⟩) y.m e2))) := (HB4.out.setCell (Nat.le_refl _) _).setCell (Nat.le_refl _) _
          have HMz := Lib.hid (HM.out.below HBs.out)
          have HVz := Lib.hid (HW.out.keep HBs.out)
          have HMy := Lib.hid (LbM.put ((HL4.out.setOther (by omega) _).setOther (by omega) _) (bx2 HX4.out (.slice (some ⟨p1, 0, none⟩) y.n e1) (.slice (some ⟨p2, 0, none⟩) y.m e2)) HMz.out.bl (by omega) (by omega))
          clear HL4 HB4 HSK HX4 HBA HXA HBs hxc4 hxf4
          generalize (w4.setCell ⟨wr.heap.size, 0, none⟩ (.slice (some ⟨p1, 0, none⟩) y.n e1)).setCell ⟨wr.heap.size, 1, none⟩ (.slice (some ⟨p2, 0, none⟩) y.m e2) = W9 at *
          generalize wr.heap.size = b11 at *
          have hyc := HMy.out.box.cell
          have hbcy := HMz.out.box.cell
          go_wp2_with fail
          refine HMy.out.left.mono ?_
          rintro e w9 ⟨rfl, hb9⟩
          have HM9 := Lib.hid (HMz.out.below hb9)
          have HV9 := Lib.hid (HVz.out.keep hb9)
          clear hb9 hbcy hyc
          have hwd : IntKind.i64.wrap (lf - lefO y) = lf - lefO y := IntWalk.i64_in _ (by omega)
          by_cases hd : lf - lefO y = 1
          · have hdb : (lf - lefO y == 1) = true := by simp [hd]
            have HLS : Hid (lsF x (k + 1) = true) := by
              show _ = _
              rw [HNX.out, decide_eq_true hd, Bool.or_true]
            cases hls : lsF x k
            all_goals
              have HLK := Lib.hid hls
              clear hls
              go_wp2_with fail
              go_roundw
              case rel => exact ⟨k + 1, by omega, by go_num, by rw [HLS.out], HM9, HV9⟩
              case measure => simp [intOf]; omega
          · have hdb : (lf - lefO y == 1) = false := by simp [hd]
            have HLS : Hid (lsF x (k + 1) = lsF x k) := by
              show _ = _
              rw [HNX.out, decide_eq_false hd, Bool.or_false]
            cases hls : lsF x k
            all_goals
              have HLK := Lib.hid hls
              clear hls
              go_wp2_with fail
              go_roundw
              case rel => exact ⟨k + 1, by omega, by go_num, by rw [HLS.out, HLK.out], HM9, HV9⟩
              case measure => simp [intOf]; omega
        · exact AllReadyH.nil
    · obtain rfl : k = (lmL x).length := by omega
      rw [HLA.out]
      have hfe : (((fnL x).length : Int) == lf) = true := by rw [HFL.out, ← HLF.out]; simp
      have HDD := Lib.hid HM.out.doneI
      have HDE : Hid (donL x = (lf == 0)) := by
        show _ = _
        rw [HDN.out, ← HLF.out]
        rw [Bool.eq_iff_iff]
        simp
      go_wp2_with fail
      refine HDD.out.mono ?_
      rintro e w9 ⟨rfl, hb9⟩
      have HB9 := Lib.hid ((HM.out.below hb9).bl)
      rw [HDE.out]
      clear hb9 hbc hfe
      go_wp2_with fail
      go_ret
      exact ⟨by simp, HB9.out⟩
end Go.Proofs.Ytbachpfgakjncaa
