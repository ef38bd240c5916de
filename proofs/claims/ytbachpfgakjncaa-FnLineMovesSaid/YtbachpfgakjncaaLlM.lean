/-
  The law FnLineMoves: the walk.
-/
import Derived.Test.YtbachpfgakjncaaLlF
import Derived.Test.YtbachpfgakjncaaWb
namespace Go.Proofs.Ytbachpfgakjncaa
open Go.RowKit

theorem LrR.any {o : Option Ln} {w w' : World} {e : Ending} (h : LrR o w e w') : ∃ a1 n1 c1 a2 n2 c2 ok, e = .returned (.tuple #[.agg #[.slice a1 n1 c1, .slice a2 n2 c2], .bool ok]) ∧ Below w.heap.size w w' := by
  obtain ⟨hb, ⟨_, h⟩ | ⟨_, v, _, h, g1, c1, g2, c2, rfl, _⟩⟩ := h
  · exact ⟨_, _, _, _, _, _, _, h, hb⟩
  · exact ⟨_, _, _, _, _, _, _, h, hb⟩
/-- two moves in a row of their own -/
theorem mvs_two (w : World) (s s' : Int) (l l' : ByteArray) : MvsC (w.alloc (.cells #[.int .i64 s, .string l, .int .i64 s', .string l'] 34)) w.heap.size 0 2 (mvM [(s, l), (s', l')]) (mvS [(s, l), (s', l')]) := fun k hk => by
  match k, hk with
  | 0, _ => exact ⟨box_new _ _ _ 0, box_new _ _ _ 1⟩
  | 1, _ => exact ⟨box_new _ _ _ 2, box_new _ _ _ 3⟩
/-- the boxes of the two moves -/
structure M2 (w wr : World) (b3 g1 c1 g2 c2 : Nat) (x : Ln) (b11 b12 : Nat) (s s' : Int) (l l' : ByteArray) : Prop where
  m : LbM w wr b3 g1 c1 g2 c2 x
  x1 : Bx wr b11 34 #[.int .i64 s, .string l]
  x2 : Bx wr b12 34 #[.int .i64 s', .string l']
theorem M2.below {w wr w' : World} {b3 g1 c1 g2 c2 : Nat} {x : Ln} {b11 b12 : Nat} {s s' : Int} {l l' : ByteArray} (h : M2 w wr b3 g1 c1 g2 c2 x b11 b12 s s' l l') (hb : Below wr.heap.size wr w') : M2 w w' b3 g1 c1 g2 c2 x b11 b12 s s' l l' :=
  ⟨h.m.below hb, h.x1.below hb h.x1.lt, h.x2.below hb h.x2.lt⟩
theorem M2.run {w wr : World} {b3 g1 c1 g2 c2 : Nat} {x : Ln} {b11 b12 : Nat} {s s' : Int} {l l' : ByteArray} (h : M2 w wr b3 g1 c1 g2 c2 x b11 b12 s s' l l') (t t' : Int) (m m' : ByteArray) :
    Calls Try.prog 16 #[.agg #[.slice (some ⟨g1, 0, none⟩) x.n c1, .slice (some ⟨g2, 0, none⟩) x.m c2], .slice (some ⟨wr.heap.size, 0, none⟩) 2 2] (wr.alloc (.cells #[.int .i64 t, .string m, .int .i64 t', .string m'] 34)) (LrR (rnO x (mvM [(t, m), (t', m')]) (mvS [(t, m), (t', m')]) 2) (wr.alloc (.cells #[.int .i64 t, .string m, .int .i64 t', .string m'] 34))) :=
  (h.m.alloc _).runI (mvs_two wr t t' m m') (by omega)
set_option linter.unusedSimpArgs false in
set_option maxRecDepth 100000 in
set_option maxHeartbeats 4000000 in
theorem lawLineMoves_any (ao : Option Addr) (n c : Nat) (ao' : Option Addr) (n' c' : Nat) (w : World) (hB : BSl w ao n) (hnc : n ≤ c) (hn : n ≤ 9223372036854775807) (hn' : n' ≤ 9223372036854775807) :
    Calls Try.prog 3 #[.slice ao n c, .slice ao' n' c'] w fun e w' => e = .returned (.bool true) ∧ Below w.heap.size w w' := by
  have HBS := Lib.hid hB
  clear hB
  by_cases hlong : 1048576 < n
  · go_enter Try.func3, Try.ntmps3
    go_wp2_with fail
    go_ret
    exact ⟨rfl, Below.refl _ _⟩
  by_cases hlong2 : 1048576 < n'
  · go_enter Try.func3, Try.ntmps3
    go_wp2_with fail
    go_ret
    exact ⟨rfl, Below.refl _ _⟩
  go_enter Try.func3, Try.ntmps3
  go_wp2_with fail
  refine (drawLMoves_any ao n c _ hnc hn HBS.out).mono ?_
  rintro e w1 ⟨v, x, rfl, hl, hx1, hx2, hx3, hb1⟩
  have HL1 := Lib.hid hl
  have HB1 := Lib.hid hb1
  obtain ⟨g1, c1, g2, c2, rfl, _⟩ := hl
  clear hb1
  have HM1 : Hid (LbM w (w1.alloc (.cells #[.slice (some ⟨g1, 0, none⟩) x.n c1, .slice (some ⟨g2, 0, none⟩) x.m c2] 26)) w1.heap.size g1 c1 g2 c2 x) := LbM.new HB1.out HL1.out (by omega) (by omega)
  clear HL1 HB1
  go_wp2_with fail
  generalize w1.alloc (.cells #[.slice (some ⟨g1, 0, none⟩) x.n c1, .slice (some ⟨g2, 0, none⟩) x.m c2] 26) = w2 at *
  generalize w1.heap.size = b5 at *
  have hbc := HM1.out.box.cell
  generalize b5 = b3 at *
  refine HM1.out.movI.mono ?_
  rintro e w3 ⟨⟨v, rfl, hvm⟩, hb⟩
  have HM3 := Lib.hid (HM1.out.below hb)
  have HA3 := Lib.hid hvm
  obtain ⟨aom, cm, rfl⟩ := hvm.shape
  clear hb hbc hvm
  have hbc := HM3.out.box.cell
  go_wp2_with fail
  refine HM3.out.movS.mono ?_
  rintro e w4 ⟨⟨v, rfl, hvm⟩, hb⟩
  have HM4 := Lib.hid (HM3.out.below hb)
  have HA4 := Lib.hid (HA3.out.keep hb)
  have HS4 := Lib.hid hvm
  obtain ⟨aos, cs, rfl⟩ := hvm.shape
  clear hb hbc HA3 hvm
  have hbc := HM4.out.box.cell
  have hml := lmL_len x
  have HSA := Lib.hid (sameMoves_ML _ _ (lmL x).length (mvM (lmL x)) (mvS (lmL x)) w4 (by omega) HA4.out HS4.out)
  go_wp2_with fail
  refine HSA.out.mono ?_
  rintro e w5 ⟨rfl, hb⟩
  have HM5 := Lib.hid (HM4.out.below hb)
  have HA5 := Lib.hid (HA4.out.keep hb)
  have HS5 := Lib.hid (HS4.out.keep hb)
  clear hb hbc HA4 HS4 HSA
  rcases Nat.eq_zero_or_pos (lmL x).length with h0 | h0
  · have HSB := Lib.hid (sameMoves_ML _ _ (lmL x).length (mvM (lmL x)) (mvS (lmL x)) w5 (by omega) HA5.out HS5.out)
    have HZ : Hid ((lmL x).length = 0) := h0
    have hzb : (((lmL x).length : Int) == 0) = true := by rw [h0]; rfl
    clear h0
    go_wp2_with fail
    (with_reducible refine HSB.out.mono ?_)
    rintro e w6 ⟨rfl, hb⟩
    have HM6 := Lib.hid (HM5.out.below hb)
    clear hb
    go_wp2_with fail
    go_ret
    exact ⟨rfl, HM6.out.bl⟩
  have hzb : (((lmL x).length : Int) == 0) = false := by simp; intro e; rw [e] at h0; simp at h0
  go_wp2_with fail
  go_loopw [8, 9, 10] (fun i _ _ wr => ∃ k : Nat, k ≤ (lmL x).length ∧ i = .int .i64 k ∧ Hid (LbM w wr b3 g1 c1 g2 c2 x) ∧ Hid (MvV wr (.slice aom (lmL x).length cm) (lmL x))) (fun i _ _ _ => (lmL x).length - (intOf i).toNat)
  case atStart => exact ⟨0, Nat.zero_le _, rfl, HM5, HA5⟩
  case round =>
    obtain ⟨k, hk, rfl, HM, HW⟩ := hrel
    have hbc := HM.out.box.cell
    by_cases hlt : k < (lmL x).length
    · obtain ⟨bm, mo, rfl, hm0, hm1⟩ := HW.out.at hlt
      have HSO := Lib.hid (lmL_stO (List.getElem_mem hlt))
      generalize hs : ((lmL x)[k]).1 = s at *
      generalize hls : ((lmL x)[k]).2 = l at *
      clear hs hls
      have HST : Hid (∀ W, LbM w W b3 g1 c1 g2 c2 x → Calls Try.prog 15 #[.agg #[.slice (some ⟨g1, 0, none⟩) x.n c1, .slice (some ⟨g2, 0, none⟩) x.m c2], .agg #[.int .i64 s, .string l]] W fun e w' => ∃ v, e = .returned (.tuple #[v, .bool true]) ∧ LnO W.heap.size w' v (mvTo x s l) ∧ Below W.heap.size W w') := fun W hW => (hW.step s l).mono fun e w' h => h.some HSO.out
      have hyn : (mvTo x s l).n ≤ 4 := hx2
      have hym : (mvTo x s l).m ≤ 5 := hx3
      generalize hy : mvTo x s l = y at *
      clear hy
      go_wp2_with fail
      refine wp_region_held_drew (S := (fun w' => (w'.cell? ⟨b3, 0, none⟩ = some (.slice (some ⟨g1, 0, none⟩) x.n c1) ∧ w'.cell? ⟨b3, 1, none⟩ = some (.slice (some ⟨g2, 0, none⟩) x.m c2)) ∧ (w'.cell? ⟨bm, mo + k * 2, none⟩ = some (.int .i64 s) ∧ w'.cell? ⟨bm, mo + k * 2 + 1, none⟩ = some (.string l)))) (by kernel_rfl) ?_ (fun hHeld => ?_)
      · try dsimp only
        go_keep
      refine wpAnyH_take (i := 0) (oi := ?_) (v := ?_) ?_ (by kernel_rfl) (by kernel_rfl) (by kernel_rfl) ?_ ?_ (by assumption) ?_
      rotate_left 2
      · simp only [List.getElem?_toArray, List.getElem?_cons_succ, List.getElem?_cons_zero]; rfl
      · exact fun _ _ _ h => h
      · first
          | (refine Or.inr ⟨?_, ?_⟩ <;> rfl)
          | (refine Or.inl ⟨?_, ?_⟩; · rfl
             intro w hSw; (try dsimp only at hSw); go_simp; (try with_reducible rfl); done)
      try simp only [Act.put, List.setIfInBounds_toArray, List.set_cons_zero, List.set_cons_succ]
      refine wpAnyH_take (i := 1) (oi := ?_) (v := ?_) ?_ (by kernel_rfl) (by kernel_rfl) (by kernel_rfl) ?_ ?_ (by assumption) ?_
      rotate_left 2
      · simp only [List.getElem?_toArray, List.getElem?_cons_succ, List.getElem?_cons_zero]; rfl
      · exact fun _ _ _ h => h
      · first
          | (refine Or.inr ⟨?_, ?_⟩ <;> rfl)
          | (refine Or.inl ⟨?_, ?_⟩; · rfl
             intro w hSw; (try dsimp only at hSw); go_simp; (try with_reducible rfl); done)
      try simp only [Act.put, List.setIfInBounds_toArray, List.set_cons_zero, List.set_cons_succ]
      refine wpAnyH_take (i := 2) (oi := ?_) (v := ?_) ?_ (by kernel_rfl) (by kernel_rfl) (by kernel_rfl) ?_ ?_ (by assumption) ?_
      rotate_left 2
      · simp only [List.getElem?_toArray, List.getElem?_cons_succ, List.getElem?_cons_zero]; rfl
      · exact fun _ _ _ h => h
      · first
          | (refine Or.inr ⟨?_, ?_⟩ <;> rfl)
          | (refine Or.inl ⟨?_, ?_⟩; · rfl
             intro w hSw; (try dsimp only at hSw); go_simp; (try with_reducible rfl); done)
      try simp only [Act.put, List.setIfInBounds_toArray, List.set_cons_zero, List.set_cons_succ]
      refine wpAnyH_take (i := 3) (oi := ?_) (v := ?_) ?_ (by kernel_rfl) (by kernel_rfl) (by kernel_rfl) ?_ ?_ (by assumption) ?_
      rotate_left 2
      · simp only [List.getElem?_toArray, List.getElem?_cons_succ, List.getElem?_cons_zero]; rfl
      · exact fun _ _ _ h => h
      · first
          | (refine Or.inr ⟨?_, ?_⟩ <;> rfl)
          | (refine Or.inl ⟨?_, ?_⟩; · rfl
             intro w hSw; (try dsimp only at hSw); go_simp; (try with_reducible rfl); done)
      try simp only [Act.put, List.setIfInBounds_toArray, List.set_cons_zero, List.set_cons_succ]
      refine wpAnyH_take (i := 4) (oi := ?_) (v := ?_) ?_ (by kernel_rfl) (by kernel_rfl) (by kernel_rfl) ?_ ?_ (by assumption) ?_
      rotate_left 2
      · simp only [List.getElem?_toArray, List.getElem?_cons_succ, List.getElem?_cons_zero]; rfl
      · exact fun _ _ _ h => h
      · first
          | (refine Or.inr ⟨?_, ?_⟩ <;> rfl)
          | (refine Or.inl ⟨?_, ?_⟩; · rfl
             intro w hSw; (try dsimp only at hSw); go_simp; (try with_reducible rfl); done)
      try simp only [Act.put, List.setIfInBounds_toArray, List.set_cons_zero, List.set_cons_succ]
      have HSK : Hid (∀ W, Below wr.heap.size wr W → (W.cell? ⟨b3, 0, none⟩ = some (.slice (some ⟨g1, 0, none⟩) x.n c1) ∧ W.cell? ⟨b3, 1, none⟩ = some (.slice (some ⟨g2, 0, none⟩) x.m c2)) ∧ (W.cell? ⟨bm, mo + k * 2, none⟩ = some (.int .i64 s) ∧ W.cell? ⟨bm, mo + k * 2 + 1, none⟩ = some (.string l))) := fun W hb => by
        have h1 := (HM.out.below hb).box.cell
        have h2 : bm < wr.heap.size := World.block_lt_of_cell? wr ⟨bm, mo + k * 2, none⟩ hm0
        exact ⟨⟨h1 0, h1 1⟩, by rw [hb.cell (p := ⟨bm, mo + k * 2, none⟩) h2]; exact hm0, by rw [hb.cell (p := ⟨bm, mo + k * 2 + 1, none⟩) h2]; exact hm1⟩
      clear hbc hm0 hm1
      refine wpAnyH_ready (rs := [5, 9]) (by kernel_rfl) (by simp) ?_
      refine AllReadyH.cons (o := ?_) ?_ (fun K hK => ?_) ?_
      rotate_left 1
      · simp only [List.getElem?_toArray, List.getElem?_cons_succ, List.getElem?_cons_zero]; rfl
      · go_simp
        go_at_call 15
        go_must (refine Calls.mono (HST.out _ HM.out.drew) ?_)
        rintro e w4 ⟨v, rfl, hl, hb⟩
        replace hb : Below wr.heap.size wr w4 := (Below.refl _ wr).drew.trans hb
        have HL4 := Lib.hid hl
        have HB4 := Lib.hid hb
        obtain ⟨p1, e1, p2, e2, rfl, _⟩ := hl
        clear hb
        refine hK.out _ _ ?_ (fun hHeld => ?_)
        · try dsimp only
          exact HSK.out _ HB4.out
        clear hK K
        try simp only [Act.put, List.setIfInBounds_toArray, List.set_cons_zero, List.set_cons_succ]
        refine wpAnyH_take (i := 6) (oi := ?_) (v := ?_) ?_ (by kernel_rfl) (by kernel_rfl) (by kernel_rfl) ?_ ?_ (by assumption) ?_
        rotate_left 2
        · simp only [List.getElem?_toArray, List.getElem?_cons_succ, List.getElem?_cons_zero]; rfl
        · exact fun _ _ _ h => h
        · first
            | (refine Or.inr ⟨?_, ?_⟩ <;> rfl)
            | (refine Or.inl ⟨?_, ?_⟩; · rfl
               intro w hSw; (try dsimp only at hSw); go_simp; (try with_reducible rfl); done)
        try simp only [Act.put, List.setIfInBounds_toArray, List.set_cons_zero, List.set_cons_succ]
        refine wpAnyH_take (i := 7) (oi := ?_) (v := ?_) ?_ (by kernel_rfl) (by kernel_rfl) (by kernel_rfl) ?_ ?_ (by assumption) ?_
        rotate_left 2
        · simp only [List.getElem?_toArray, List.getElem?_cons_succ, List.getElem?_cons_zero]; rfl
        · exact fun _ _ _ h => h
        · first
            | (refine Or.inr ⟨?_, ?_⟩ <;> rfl)
            | (refine Or.inl ⟨?_, ?_⟩; · rfl
               intro w hSw; (try dsimp only at hSw); go_simp; (try with_reducible rfl); done)
        try simp only [Act.put, List.setIfInBounds_toArray, List.set_cons_zero, List.set_cons_succ]
        refine wpAnyH_take (i := 8) (oi := ?_) (v := ?_) ?_ (by kernel_rfl) (by kernel_rfl) (by kernel_rfl) ?_ ?_ (by assumption) ?_
        rotate_left 2
        · simp only [List.getElem?_toArray, List.getElem?_cons_succ, List.getElem?_cons_zero]; rfl
        · exact fun _ _ _ h => h
        · first
            | (refine Or.inr ⟨?_, ?_⟩ <;> rfl)
            | (refine Or.inl ⟨?_, ?_⟩; · rfl
               intro w hSw; (try dsimp only at hSw); go_simp; (try with_reducible rfl); done)
        try simp only [Act.put, List.setIfInBounds_toArray, List.set_cons_zero, List.set_cons_succ]
        refine wpAnyH_ready (rs := [9]) (by kernel_rfl) (by simp) ?_
        refine AllReadyH.cons (o := ?_) ?_ (fun K hK => ?_) AllReadyH.nil
        rotate_left 1
        · simp only [List.getElem?_toArray, List.getElem?_cons_succ, List.getElem?_cons_zero]; rfl
        go_simp
        skip
        refine hK.out _ _ ?_ (fun hHeld => ?_)
        · try dsimp only
          exact HSK.out _ (HB4.out.alloc HB4.out.size _)
        clear hK K
        try simp only [Act.put, List.setIfInBounds_toArray, List.set_cons_zero, List.set_cons_succ]
        refine wpAnyH_ready (rs := [10]) (by kernel_rfl) (by simp) ?_
        refine AllReadyH.cons (o := ?_) ?_ (fun K hK => ?_) AllReadyH.nil
        rotate_left 1
        · simp only [List.getElem?_toArray, List.getElem?_cons_succ, List.getElem?_cons_zero]; rfl
        go_simp
        skip
        refine hK.out _ _ ?_ (fun hHeld => ?_)
        · try dsimp only
          exact HSK.out _ (HB4.out.alloc HB4.out.size _)
        clear hK K
        try simp only [Act.put, List.setIfInBounds_toArray, List.set_cons_zero, List.set_cons_succ]
        refine wpAnyH_take (i := 11) (oi := ?_) (v := ?_) ?_ (by kernel_rfl) (by kernel_rfl) (by kernel_rfl) ?_ ?_ (by assumption) ?_
        rotate_left 2
        · simp only [List.getElem?_toArray, List.getElem?_cons_succ, List.getElem?_cons_zero]; rfl
        · exact fun _ _ _ h => h
        · first
            | (refine Or.inr ⟨?_, ?_⟩ <;> rfl)
            | (refine Or.inl ⟨?_, ?_⟩; · rfl
               intro w hSw; (try dsimp only at hSw); go_simp; (try with_reducible rfl); done)
        try simp only [Act.put, List.setIfInBounds_toArray, List.set_cons_zero, List.set_cons_succ]
        refine wpAnyH_done (by kernel_rfl) ?_ _
        have HMy : Hid (LbM w (w4.alloc (.cells #[.slice (some ⟨p1, 0, none⟩) y.n e1, .slice (some ⟨p2, 0, none⟩) y.m e2] 26)) w4.heap.size p1 e1 p2 e2 y) := LbM.new (HM.out.below HB4.out).bl HL4.out (by omega) (by omega)
        have HMz : Hid (LbM w (w4.alloc (.cells #[.slice (some ⟨p1, 0, none⟩) y.n e1, .slice (some ⟨p2, 0, none⟩) y.m e2] 26)) b3 g1 c1 g2 c2 x) := (HM.out.below HB4.out).alloc _
        have HVz : Hid (MvV (w4.alloc (.cells #[.slice (some ⟨p1, 0, none⟩) y.n e1, .slice (some ⟨p2, 0, none⟩) y.m e2] 26)) (.slice (some ⟨bm, mo, none⟩) (lmL x).length cm) (lmL x)) := (HW.out.keep HB4.out).keep (below_all _ _)
        clear HL4 HB4 HSK
        generalize w4.alloc (.cells #[.slice (some ⟨p1, 0, none⟩) y.n e1, .slice (some ⟨p2, 0, none⟩) y.m e2] 26) = W9 at *
        generalize w4.heap.size = b11 at *
        have hyc := HMy.out.box.cell
        have hbcy := HMz.out.box.cell
        go_wp2_with fail
        clear hyc hbcy
        go_roundw
        case rel => exact ⟨k + 1, by omega, by go_num, HMz, HVz⟩
        case measure => simp [intOf]; omega
      · refine AllReadyH.cons (o := ?_) ?_ (fun K hK => ?_) ?_
        rotate_left 1
        · simp only [List.getElem?_toArray, List.getElem?_cons_succ, List.getElem?_cons_zero]; rfl
        · have HBA : Hid (Below wr.heap.size wr (wr.alloc (.cells #[.slice none 0 0, .slice none 0 0] 26)).drew) := (below_all wr (.cells #[.slice none 0 0, .slice none 0 0] 26)).drew
          go_simp
          skip
          refine hK.out _ _ ?_ (fun hHeld => ?_)
          · try dsimp only
            exact HSK.out _ HBA.out
          clear hK K
          try simp only [Act.put, List.setIfInBounds_toArray, List.set_cons_zero, List.set_cons_succ]
          have HXA : Hid (Bx (wr.alloc (.cells #[.slice none 0 0, .slice none 0 0] 26)).drew wr.heap.size 26 #[.slice none 0 0, .slice none 0 0]) := Bx.new wr _ _
          have hza : (wr.alloc (.cells #[.slice none 0 0, .slice none 0 0] 26)).drew.heap.size = wr.heap.size + 1 := by simp
          generalize (wr.alloc (.cells #[.slice none 0 0, .slice none 0 0] 26)).drew = WA at *
          refine wpAnyH_ready (rs := [5]) (by kernel_rfl) (by simp) ?_
          refine AllReadyH.cons (o := ?_) ?_ (fun K hK => ?_) AllReadyH.nil
          rotate_left 1
          · simp only [List.getElem?_toArray, List.getElem?_cons_succ, List.getElem?_cons_zero]; rfl
          go_simp
          go_at_call 15
          go_must (refine Calls.mono (HST.out _ (HM.out.below HBA.out)) ?_)
          rintro e w4 ⟨v, rfl, hl, hb⟩
          have HX4 := Lib.hid (HXA.out.below hb HXA.out.lt)
          have HL4 := Lib.hid hl
          have HB4 := Lib.hid (HBA.out.trans (hb.mono HBA.out.size))
          have hxc4 := HX4.out.cell
          have hxf4 := HX4.out.free
          obtain ⟨p1, e1, p2, e2, rfl, _⟩ := hl
          clear hb
          refine hK.out _ _ ?_ (fun hHeld => ?_)
          · try dsimp only
            exact HSK.out _ HB4.out
          clear hK K
          try simp only [Act.put, List.setIfInBounds_toArray, List.set_cons_zero, List.set_cons_succ]
          refine wpAnyH_take (i := 6) (oi := ?_) (v := ?_) ?_ (by kernel_rfl) (by kernel_rfl) (by kernel_rfl) ?_ ?_ (by assumption) ?_
          rotate_left 2
          · simp only [List.getElem?_toArray, List.getElem?_cons_succ, List.getElem?_cons_zero]; rfl
          · exact fun _ _ _ h => h
          · first
              | (refine Or.inr ⟨?_, ?_⟩ <;> rfl)
              | (refine Or.inl ⟨?_, ?_⟩; · rfl
                 intro w hSw; (try dsimp only at hSw); go_simp; (try with_reducible rfl); done)
          try simp only [Act.put, List.setIfInBounds_toArray, List.set_cons_zero, List.set_cons_succ]
          refine wpAnyH_take (i := 7) (oi := ?_) (v := ?_) ?_ (by kernel_rfl) (by kernel_rfl) (by kernel_rfl) ?_ ?_ (by assumption) ?_
          rotate_left 2
          · simp only [List.getElem?_toArray, List.getElem?_cons_succ, List.getElem?_cons_zero]; rfl
          · exact fun _ _ _ h => h
          · first
              | (refine Or.inr ⟨?_, ?_⟩ <;> rfl)
              | (refine Or.inl ⟨?_, ?_⟩; · rfl
                 intro w hSw; (try dsimp only at hSw); go_simp; (try with_reducible rfl); done)
          try simp only [Act.put, List.setIfInBounds_toArray, List.set_cons_zero, List.set_cons_succ]
          refine wpAnyH_take (i := 8) (oi := ?_) (v := ?_) ?_ (by kernel_rfl) (by kernel_rfl) (by kernel_rfl) ?_ ?_ (by assumption) ?_
          rotate_left 2
          · simp only [List.getElem?_toArray, List.getElem?_cons_succ, List.getElem?_cons_zero]; rfl
          · exact fun _ _ _ h => h
          · first
              | (refine Or.inr ⟨?_, ?_⟩ <;> rfl)
              | (refine Or.inl ⟨?_, ?_⟩; · rfl
                 intro w hSw; (try dsimp only at hSw); go_simp; (try with_reducible rfl); done)
          try simp only [Act.put, List.setIfInBounds_toArray, List.set_cons_zero, List.set_cons_succ]
          refine wpAnyH_ready (rs := [10]) (by kernel_rfl) (by simp) ?_
          refine AllReadyH.cons (o := ?_) ?_ (fun K hK => ?_) AllReadyH.nil
          rotate_left 1
          · simp only [List.getElem?_toArray, List.getElem?_cons_succ, List.getElem?_cons_zero]; rfl
          go_simp
          skip
          refine hK.out _ _ ?_ (fun hHeld => ?_)
          · try dsimp only
            exact HSK.out _ ((HB4.out.setCell (Nat.le_refl _) _).setCell (Nat.le_refl _) _)
          clear hK K
          try simp only [Act.put, List.setIfInBounds_toArray, List.set_cons_zero, List.set_cons_succ]
          refine wpAnyH_take (i := 11) (oi := ?_) (v := ?_) ?_ (by kernel_rfl) (by kernel_rfl) (by kernel_rfl) ?_ ?_ (by assumption) ?_
          rotate_left 2
          · simp only [List.getElem?_toArray, List.getElem?_cons_succ, List.getElem?_cons_zero]; rfl
          · exact fun _ _ _ h => h
          · first
              | (refine Or.inr ⟨?_, ?_⟩ <;> rfl)
              | (refine Or.inl ⟨?_, ?_⟩; · rfl
                 intro w hSw; (try dsimp only at hSw); go_simp; (try with_reducible rfl); done)
          try simp only [Act.put, List.setIfInBounds_toArray, List.set_cons_zero, List.set_cons_succ]
          refine wpAnyH_done (by kernel_rfl) ?_ _
          have HBs : Hid (Below wr.heap.size wr ((w4.setCell ⟨wr.heap.size, 0, none⟩ (.slice (some ⟨p1, 0, none⟩) y.n e1)).setCell ⟨wr.heap.size, 1, none⟩ (.slice (some ⟨p2, 0, none⟩) y.m e2))) := (HB4.out.setCell (Nat.le_refl _) _).setCell (Nat.le_refl _) _
          have HMz := Lib.hid (HM.out.below HBs.out)
          have HVz := Lib.hid (HW.out.keep HBs.out)
          have HMy := Lib.hid (LbM.put ((HL4.out.setOther (by omega) _).setOther (by omega) _) (bx2 HX4.out (.slice (some ⟨p1, 0, none⟩) y.n e1) (.slice (some ⟨p2, 0, none⟩) y.m e2)) HMz.out.bl (by omega) (by omega))
          clear HL4 HB4 HSK HX4 HBA HXA HBs hxc4 hxf4
          generalize (w4.setCell ⟨wr.heap.size, 0, none⟩ (.slice (some ⟨p1, 0, none⟩) y.n e1)).setCell ⟨wr.heap.size, 1, none⟩ (.slice (some ⟨p2, 0, none⟩) y.m e2) = W9 at *
          generalize wr.heap.size = b11 at *
          have hyc := HMy.out.box.cell
          have hbcy := HMz.out.box.cell
          go_wp2_with fail
          clear hyc hbcy
          go_roundw
          case rel => exact ⟨k + 1, by omega, by go_num, HMz, HVz⟩
          case measure => simp [intOf]; omega
        · exact AllReadyH.nil
    · obtain e : k = (lmL x).length := by omega
      subst e
      have HWL := HW
      obtain ⟨j1, hj1e⟩ : ∃ j1, j1 = n' % (lmL x).length := ⟨_, rfl⟩
      obtain ⟨d7, hd7⟩ : ∃ d7, d7 = n' / 7 := ⟨_, rfl⟩
      obtain ⟨j2, hj2e⟩ : ∃ j2, j2 = d7 % (lmL x).length := ⟨_, rfl⟩
      have hj1 : j1 < (lmL x).length := by rw [hj1e]; exact Nat.mod_lt _ h0
      have hj2 : j2 < (lmL x).length := by rw [hj2e]; exact Nat.mod_lt _ h0
      have hr1 : ((n' : Int) % ((lmL x).length : Int)) = (j1 : Int) := by rw [hj1e]; rfl
      have hrd : ((n' : Int) / 7) = (d7 : Int) := by rw [hd7]; rfl
      have hr2 : ((d7 : Int) % ((lmL x).length : Int)) = (j2 : Int) := by rw [hj2e]; rfl
      have hj1I : (j1 : Int) < ((lmL x).length : Int) := by omega
      have hj2I : (j2 : Int) < ((lmL x).length : Int) := by omega
      have hlI : (0 : Int) < ((lmL x).length : Int) := by omega
      have hd7p : (d7 : Int) ≤ 1048576 := by rw [hd7]; omega
      clear hj1e hd7 hj2e
      obtain ⟨bm, mo, rfl, hm0, hm1⟩ := HW.out.at hj1
      obtain ⟨bm', mo', eq, hn0, hn1⟩ := HW.out.at hj2
      cases eq
      have hok1 := lmL_ok (List.getElem_mem hj1)
      have hok2 := lmL_ok (List.getElem_mem hj2)
      generalize hs1 : ((lmL x)[j1]).1 = s1 at *
      generalize hl1 : ((lmL x)[j1]).2 = l1 at *
      generalize hs2 : ((lmL x)[j2]).1 = s2 at *
      generalize hl2 : ((lmL x)[j2]).2 = l2 at *
      clear hs1 hl1 hs2 hl2
      have HOK1 := Lib.hid hok1
      have HOK2 := Lib.hid hok2
      clear hok1 hok2
      have hbmz : bm < wr.heap.size := World.block_lt_of_cell? wr ⟨bm, mo + j1 * 2, none⟩ hm0
      have hb3z : b3 < wr.heap.size := HM.out.box.lt
      have HM2 : Hid (M2 w ((wr.alloc (.cells #[.int .i64 s1, .string l1] 34)).alloc (.cells #[.int .i64 s2, .string l2] 34)) b3 g1 c1 g2 c2 x wr.heap.size (wr.heap.size + 1) s1 s2 l1 l2) := ⟨(HM.out.alloc _).alloc _, (Bx.new _ _ _).alloc _, Bx.newAt (by simp)⟩
      have HRUN := HM2.out.run s1 s2 l1 l2
      simp only [World.size_alloc] at HRUN
      replace HRUN := Lib.hid HRUN
      by_cases hs : s1 = s2
      · subst hs
        go_wp2_with fail
        (with_reducible refine HRUN.out.mono ?_)
        rintro e w8 h8
        obtain ⟨y1, y2, y3, y4, y5, y6, ok, rfl, hb8⟩ := h8.any
        have HM8 := Lib.hid (HM2.out.below ((below_all _ _).trans (hb8.mono (by simp))))
        clear hb8 h8 HRUN
        have HM9 := Lib.hid (HM8.out.below (below_all w8 (.cells #[.slice y1 y2 y3, .slice y4 y5 y6] 26)))
        have HRUN := HM9.out.run s1 s1 l2 l1
        simp only [World.size_alloc] at HRUN
        replace HRUN := Lib.hid HRUN
        have hb3y := HM8.out.m.box.lt
        have hx1y := HM8.out.x1.lt
        have hx2y := HM8.out.x2.lt
        have hbc8 := HM8.out.m.box.cell
        have hc1 := HM8.out.x1.cell
        have hc2 := HM8.out.x2.cell
        clear hbc hm0 hm1 hn0 hn1
        go_wp2_with fail
        (with_reducible refine HRUN.out.mono ?_)
        rintro e wa ha
        obtain ⟨z1, z2, z3, z4, z5, z6, ok', rfl, hba⟩ := ha.any
        have HMa := Lib.hid (HM9.out.below ((below_all _ _).trans (hba.mono (by simp))))
        clear hba ha HRUN hbc8 hc1 hc2 hb3y hx1y hx2y
        have hc1 := HMa.out.x1.cell
        have hc2 := HMa.out.x2.cell
        have hx1y := HMa.out.x1.lt
        have hx2y := HMa.out.x2.lt
        go_wp2_with fail
        go_ret
        exact ⟨by simp, (HMa.out.m.alloc _).bl⟩
      · have HR : Hid (rnO x (mvM [(s1, l1), (s2, l2)]) (mvS [(s1, l1), (s2, l2)]) 2 = some (mvTo (mvTo x s1 l1) s2 l2) ∧ rnO x (mvM [(s2, l2), (s1, l1)]) (mvS [(s2, l2), (s1, l1)]) 2 = some (mvTo (mvTo x s1 l1) s2 l2)) := by
          have hv := HOK1.out.1
          have h := run_two hv HOK1.out.2 HOK2.out.2 hs
          unfold rnO
          rw [if_pos hv, if_pos hv]
          exact ⟨(runO_all x [(s1, l1), (s2, l2)]).trans h.1, (runO_all x [(s2, l2), (s1, l1)]).trans h.2⟩
        have hyn : (mvTo (mvTo x s1 l1) s2 l2).n ≤ 4 := hx2
        have hym : (mvTo (mvTo x s1 l1) s2 l2).m ≤ 5 := hx3
        generalize mvTo (mvTo x s1 l1) s2 l2 = y at *
        have hsb : (s1 == s2) = false := by simp [hs]
        have HS := Lib.hid hs
        clear hs
        go_wp2_with fail
        (with_reducible refine HRUN.out.mono ?_)
        rintro e w8 h8
        obtain ⟨v, rfl, hl8, hb8⟩ := h8.some HR.out.1
        have HL8 := Lib.hid hl8
        obtain ⟨p1, e1, p2, e2, rfl, _⟩ := hl8
        have HM8 := Lib.hid (HM2.out.below ((below_all _ _).trans (hb8.mono (by simp))))
        clear hb8 h8 HRUN
        have HY9 : Hid (LbM w (w8.alloc (.cells #[.slice (some ⟨p1, 0, none⟩) y.n e1, .slice (some ⟨p2, 0, none⟩) y.m e2] 26)) w8.heap.size p1 e1 p2 e2 y) := LbM.new HM8.out.m.bl HL8.out (by omega) (by omega)
        have HM9 := Lib.hid (HM8.out.below (below_all w8 (.cells #[.slice (some ⟨p1, 0, none⟩) y.n e1, .slice (some ⟨p2, 0, none⟩) y.m e2] 26)))
        have HRUN := HM9.out.run s2 s1 l2 l1
        simp only [World.size_alloc] at HRUN
        replace HRUN := Lib.hid HRUN
        have hb3y := HM8.out.m.box.lt
        have hx1y := HM8.out.x1.lt
        have hx2y := HM8.out.x2.lt
        have hbc8 := HM8.out.m.box.cell
        have hc1 := HM8.out.x1.cell
        have hc2 := HM8.out.x2.cell
        clear hbc hm0 hm1 hn0 hn1
        go_wp2_with fail
        (with_reducible refine HRUN.out.mono ?_)
        rintro e wa ha
        obtain ⟨v', rfl, hla, hba⟩ := ha.some HR.out.2
        have HLa := Lib.hid hla
        obtain ⟨q1, d1, q2, d2, rfl, _⟩ := hla
        have hbb := (below_all (w8.alloc (.cells #[.slice (some ⟨p1, 0, none⟩) y.n e1, .slice (some ⟨p2, 0, none⟩) y.m e2] 26)) (.cells #[.int .i64 s2, .string l2, .int .i64 s1, .string l1] 34)).trans (hba.mono (by simp))
        have HMa := Lib.hid (HM9.out.below hbb)
        have HYa := Lib.hid (HY9.out.below hbb)
        clear hbb hba ha HRUN hbc8 hc1 hc2 hb3y hx1y hx2y
        have HYb : Hid (LbM w (wa.alloc (.cells #[.slice (some ⟨q1, 0, none⟩) y.n d1, .slice (some ⟨q2, 0, none⟩) y.m d2] 26)) wa.heap.size q1 d1 q2 d2 y) := LbM.new HMa.out.m.bl HLa.out (by omega) (by omega)
        have HYc : Hid (LbM w (wa.alloc (.cells #[.slice (some ⟨q1, 0, none⟩) y.n d1, .slice (some ⟨q2, 0, none⟩) y.m d2] 26)) w8.heap.size p1 e1 p2 e2 y) := HYa.out.alloc _
        have HSL := Lib.hid (sameLine_same p1 0 e1 p2 0 e2 q1 0 d1 q2 0 d2 y (wa.alloc (.cells #[.slice (some ⟨q1, 0, none⟩) y.n d1, .slice (some ⟨q2, 0, none⟩) y.m d2] 26)) (by omega) (by omega) (BkC.of_own HYc.out.bs) (IC.of_own HYc.out.ts) (BkC.of_own HYb.out.bs) (IC.of_own HYb.out.ts))
        have hc1 := HMa.out.x1.cell
        have hc2 := HMa.out.x2.cell
        have hx1y := HMa.out.x1.lt
        have hx2y := HMa.out.x2.lt
        have hya := HYa.out.box.cell
        have hyl := HYa.out.box.lt
        go_wp2_with fail
        (with_reducible refine HSL.out.mono ?_)
        rintro e wc ⟨rfl, hb⟩
        have HBc := Lib.hid (HYb.out.below hb).bl
        clear hb
        go_wp2_with fail
        go_ret
        exact ⟨by simp, HBc.out⟩
end Go.Proofs.Ytbachpfgakjncaa
