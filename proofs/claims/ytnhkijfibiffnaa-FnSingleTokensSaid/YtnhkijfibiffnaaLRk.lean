/-
  The law FnSingleRank: plain, and the walk.
-/
import Derived.Test.YtnhkijfibiffnaaTk
import Derived.Test.YtnhkijfibiffnaaLTn
namespace Go.Proofs.Ytnhkijfibiffnaa
open Go.RowKit

theorem rk_swap : ∀ (l : List UInt8) (a b : Nat), ordL l a b = true → rkL (l.map swC) b a + rkL l a b + 1 = pasc a b
  | [], a, b, h => by
    simp [ordL] at h
    obtain ⟨rfl, rfl⟩ := h
    simp [rkL, pasc_left]
  | c :: l, a, b, h => by
    rcases ordL_cons h with ⟨rfl, ha, h⟩ | ⟨rfl, hb, h⟩
    · have ih := rk_swap l (a - 1) b h
      have e : (85 :: l).map swC = 68 :: l.map swC := rfl
      rw [e, rkL_D, rkL_U, pasc_sum ha]
      omega
    · have ih := rk_swap l a (b - 1) h
      have e : (68 :: l).map swC = 85 :: l.map swC := rfl
      have hs := pasc_sum (a := b) (b := a) hb
      have c1 := pasc_comm b a
      have c2 := pasc_comm (b - 1) a
      rw [e, rkL_D, rkL_U]
      omega
theorem ordL_swap : ∀ (l : List UInt8) (a b : Nat), ordL l a b = true → ordL (l.map swC) b a = true
  | [], a, b, h => by simp [ordL] at h ⊢; exact ⟨h.2, h.1⟩
  | c :: l, a, b, h => by
    rcases ordL_cons h with ⟨rfl, ha, h⟩ | ⟨rfl, hb, h⟩
    · exact ordL_D ha (ordL_swap l _ _ h)
    · exact ordL_U hb (ordL_swap l _ _ h)
theorem rank_list {x : Sg} {l : List UInt8} (hs : sgOk x = true) (h : ordL l x.na x.nb = true) : rankV x (strOf l) = (rkL l x.na x.nb : Int) := by
  rw [rankV_yes (stOk_yes hs (by rw [ordOk_L]; exact h)), bt_strOf, strOf_size, rkT_L _ _ _ h]
theorem rank_swap {x : Sg} {s : ByteArray} (h : stOk x s = true) : rankV (turnSg x) (swp s) = manyV x - 1 - rankV x s := by
  have hs : sgOk x = true := by simp only [stOk, Bool.and_eq_true] at h; exact h.1
  have ho := ordOk_data (stOk_parts h).2
  have h1 := rank_list hs ho
  have h2 := rank_list (x := turnSg x) (by rw [turn_ok]; exact hs) (ordL_swap _ _ _ ho)
  have h3 := rk_swap _ _ _ ho
  rw [strOf_data] at h1
  rw [h1, manyV_yes hs]
  unfold swp
  rw [h2]
  show (rkL (s.data.toList.map swC) x.nb x.na : Int) = _
  omega
theorem rankV_neg {x : Sg} {s : ByteArray} (h : ¬ rankV x s < 0) : stOk x s = true := by
  cases h1 : stOk x s
  · rw [rankV_no h1] at h; omega
  · rfl
theorem ord_dirV {x : Sg} {s : ByteArray} (h : stOk x s = true) (hs : s.size ≤ 12) : dirV s = true := by
  have ho := (ordOk_true.1 (stOk_parts h).2).1
  simp only [dirV, Bool.and_eq_true, decide_eq_true_eq]
  exact ⟨allB_true.2 fun k hk => isDir_true.2 (ho k hk), by omega⟩
set_option linter.unusedSimpArgs false in
set_option maxRecDepth 100000 in
set_option maxHeartbeats 4000000 in
theorem lawRank_any3 (ao : Option Addr) (n c : Nat) (w : World) (hB : BSl w ao n) (hnc : n ≤ c) (hn : n ≤ 9223372036854775807) :
    Calls Try.prog 11 #[.slice ao n c] w fun e w' => e = .returned (.bool true) ∧ Below w.heap.size w w' := by
  have HBS := Lib.hid hB
  clear hB
  by_cases hlong : 1048576 < n
  · go_enter Try.func11, Try.ntmps11
    go_wp2_with fail
    go_ret
    exact ⟨rfl, Below.refl _ _⟩
  go_enter Try.func11, Try.ntmps11
  go_wp2_with fail
  refine (drawRank_any ao n c _ hnc hn HBS.out).mono ?_
  rintro e w1 ⟨v, x, s, rfl, hF, hL, hs, hb1⟩
  have HF := Lib.hid hF
  have HBw := Lib.hid hb1
  have hz1 := hb1.size
  have hna := hL.na
  have hnb := hL.nb
  have HLL := Lib.hid hL
  obtain ⟨ga, ca, gb, cb, rfl, _⟩ := hF
  clear hb1 hL
  have HB0 : Hid (Below (w1.heap.size + 1) (w1.alloc (.cells #[.slice (some ⟨ga, 0, none⟩) x.na ca, .slice (some ⟨gb, 0, none⟩) x.nb cb, .int .i64 x.run, .int .i64 x.head] 25)) (w1.alloc (.cells #[.slice (some ⟨ga, 0, none⟩) x.na ca, .slice (some ⟨gb, 0, none⟩) x.nb cb, .int .i64 x.run, .int .i64 x.head] 25))) := Below.refl _ _
  have hbx := box_cells HB0.out (by omega)
  go_wp2_with fail
  refine (implRank_any _ x _ s (by omega) (sg_at HF.out HB0.out) (by omega) (by omega)).mono ?_
  rintro e w2 ⟨rfl, hb⟩
  have HB2 := Lib.hid (HB0.out.trans (hb.mono (by have := HB0.out.size; simp at this ⊢ <;> omega)))
  clear hb hbx
  have hbx := box_cells HB2.out (by omega)
  go_wp2_with fail
  refine (specRank_any _ x _ s (by omega) (sg_at HF.out HB2.out) (by omega) (by omega)).mono ?_
  rintro e w3 ⟨rfl, hb⟩
  have HB3 := Lib.hid (HB2.out.trans (hb.mono (by have := HB2.out.size; simp at this ⊢ <;> omega)))
  clear hb hbx
  have hbx := box_cells HB3.out (by omega)
  have gne : ∀ a : Int, (a != a) = false := fun a => by simp
  have geq : ∀ a : Int, (a == a) = true := fun a => by simp
  by_cases hneg : rankV x s < 0
  · go_wp2_with fail
    go_ret
    exact ⟨rfl, law_end HBw.out HB3.out⟩
  have hok := rankV_neg hneg
  have HK := Lib.hid hok
  have HSG : Hid (sgOk x = true) := by simp only [stOk, Bool.and_eq_true] at hok; exact hok.1
  have HDV := Lib.hid (ord_dirV hok hs)
  obtain ⟨r, hr, hrp, hre⟩ := nth_rank hok
  have HSW := Lib.hid (rank_swap hok)
  have HNO := Lib.hid (nthOk_at HSG.out hrp)
  have HNS : Hid (nthS x (r : Int) = s) := by show _ = _; rw [nthS_yes HNO.out]; exact hre
  have hle := sgOk_le HSG.out
  have hP := pasc_le x.na x.nb (by omega)
  obtain ⟨hl1, hl2⟩ := hle
  have HR := Lib.hid hr
  rw [hr]
  clear hok hneg hr hre
  go_wp2_with fail
  refine (implNth_any _ x _ (r : Int) (by omega) (sg_at HF.out HB3.out) (by omega) (by omega)).mono ?_
  rintro e w4 ⟨rfl, hb⟩
  have HB4 := Lib.hid (HB3.out.trans (hb.mono (by have := HB3.out.size; simp at this ⊢ <;> omega)))
  clear hb hbx
  have hbx := box_cells HB4.out (by omega)
  rw [HNO.out, HNS.out]
  go_wp2_with fail
  refine (implTurnF_any _ x _ (sg_at HF.out HB4.out) (by omega) (by omega)).mono ?_
  rintro e w5 ⟨v2, rfl, hF2, _, hb2⟩
  have HF2 := Lib.hid (hF2 HSG.out)
  obtain ⟨ga2, ca2, gb2, cb2, hv2, _⟩ := hF2 HSG.out
  replace hv2 : v2 = .agg #[.slice (some ⟨ga2, 0, none⟩) x.nb ca2, .slice (some ⟨gb2, 0, none⟩) x.na cb2, .int .i64 x.run, .int .i64 x.head] := hv2
  subst hv2
  have HB5 := Lib.hid (HB4.out.trans (hb2.mono (by have := HB4.out.size; simp at this ⊢ <;> omega)))
  have hz4 : w.heap.size ≤ w4.heap.size := (law_end HBw.out HB4.out).size
  clear hb2 hbx hF2
  have hm0 : TnM w (w5.alloc (.cells #[.slice (some ⟨ga2, 0, none⟩) x.nb ca2, .slice (some ⟨gb2, 0, none⟩) x.na cb2, .int .i64 x.run, .int .i64 x.head] 25)) w1.heap.size w5.heap.size #[.slice (some ⟨ga, 0, none⟩) x.na ca, .slice (some ⟨gb, 0, none⟩) x.nb cb, .int .i64 x.run, .int .i64 x.head] #[.slice (some ⟨ga2, 0, none⟩) x.nb ca2, .slice (some ⟨gb2, 0, none⟩) x.na cb2, .int .i64 x.run, .int .i64 x.head] (.agg #[.slice (some ⟨ga, 0, none⟩) x.na ca, .slice (some ⟨gb, 0, none⟩) x.nb cb, .int .i64 x.run, .int .i64 x.head]) (.agg #[.slice (some ⟨ga2, 0, none⟩) x.nb ca2, .slice (some ⟨gb2, 0, none⟩) x.na cb2, .int .i64 x.run, .int .i64 x.head]) x :=
    ⟨bx2_new HBw.out HB5.out _, HF.out.keep ((below_all _ _).trans ((HB5.out.mono (by omega)).trans ((below_all _ _).mono (by have := HB5.out.size; simp at this; omega)))), (HF2.out.keep (below_all _ _)).mono (by omega)⟩
  have HM5 := Lib.hid hm0
  clear hm0
  rw [HSG.out]
  go_wp2_with fail
  refine (dirTurn_any s _ HDV.out).mono ?_
  rintro e w6 ⟨rfl, hb⟩
  have HM6 := Lib.hid (HM5.out.below hb rfl)
  clear hb
  have c3 := HM6.out.b.x3.cell
  have c4 := HM6.out.b.x4.cell
  have hswz : (swp s).size ≤ 12 := by rw [swp_size]; omega
  have hmv := manyV_yes HSG.out
  have hmw : IntKind.i64.wrap (manyV x - 1) = manyV x - 1 := IntWalk.i64_in _ (by omega)
  have hmw2 : IntKind.i64.wrap (manyV x - 1 - r) = manyV x - 1 - r := IntWalk.i64_in _ (by omega)
  have HMV := Lib.hid hmv
  clear hmv
  go_wp2_with fail
  refine wp_region_held_drew (S := (fun w' => w'.cell? ⟨w1.heap.size, 0, none⟩ = some (.slice (some ⟨ga, 0, none⟩) x.na ca) ∧ w'.cell? ⟨w1.heap.size, 1, none⟩ = some (.slice (some ⟨gb, 0, none⟩) x.nb cb) ∧ w'.cell? ⟨w1.heap.size, 2, none⟩ = some (.int .i64 x.run) ∧ w'.cell? ⟨w1.heap.size, 3, none⟩ = some (.int .i64 x.head) ∧
  w'.cell? ⟨w5.heap.size, 0, none⟩ = some (.slice (some ⟨ga2, 0, none⟩) x.nb ca2) ∧ w'.cell? ⟨w5.heap.size, 1, none⟩ = some (.slice (some ⟨gb2, 0, none⟩) x.na cb2) ∧ w'.cell? ⟨w5.heap.size, 2, none⟩ = some (.int .i64 x.run) ∧ w'.cell? ⟨w5.heap.size, 3, none⟩ = some (.int .i64 x.head))) (by kernel_rfl) ?_ (fun hHeld => ?_)
  · try dsimp only
    go_keep
  refine wpAnyH_take (i := 0) (oi := ?_) (v := ?_) ?_ (by kernel_rfl) (by kernel_rfl) (by kernel_rfl) ?_ ?_ (by assumption) ?_
  rotate_left 2
  · simp only [List.getElem?_toArray, List.getElem?_cons_succ, List.getElem?_cons_zero]; rfl
  · exact fun _ _ _ h => h
  · first
      | (refine Or.inr ⟨?_, ?_⟩ <;> rfl)
      | (refine Or.inl ⟨?_, ?_⟩; · rfl
         intro w hSw; (try dsimp only at hSw); go_simp; (try with_reducible rfl); done)
  try simp only [Act.put, List.setIfInBounds_toArray, List.set_cons_zero, List.set_cons_succ]
  refine wpAnyH_take (i := 1) (oi := ?_) (v := ?_) ?_ (by kernel_rfl) (by kernel_rfl) (by kernel_rfl) ?_ ?_ (by assumption) ?_
  rotate_left 2
  · simp only [List.getElem?_toArray, List.getElem?_cons_succ, List.getElem?_cons_zero]; rfl
  · exact fun _ _ _ h => h
  · first
      | (refine Or.inr ⟨?_, ?_⟩ <;> rfl)
      | (refine Or.inl ⟨?_, ?_⟩; · rfl
         intro w hSw; (try dsimp only at hSw); go_simp; (try with_reducible rfl); done)
  try simp only [Act.put, List.setIfInBounds_toArray, List.set_cons_zero, List.set_cons_succ]
  refine wpAnyH_take (i := 2) (oi := ?_) (v := ?_) ?_ (by kernel_rfl) (by kernel_rfl) (by kernel_rfl) ?_ ?_ (by assumption) ?_
  rotate_left 2
  · simp only [List.getElem?_toArray, List.getElem?_cons_succ, List.getElem?_cons_zero]; rfl
  · exact fun _ _ _ h => h
  · first
      | (refine Or.inr ⟨?_, ?_⟩ <;> rfl)
      | (refine Or.inl ⟨?_, ?_⟩; · rfl
         intro w hSw; (try dsimp only at hSw); go_simp; (try with_reducible rfl); done)
  try simp only [Act.put, List.setIfInBounds_toArray, List.set_cons_zero, List.set_cons_succ]
  refine wpAnyH_take (i := 3) (oi := ?_) (v := ?_) ?_ (by kernel_rfl) (by kernel_rfl) (by kernel_rfl) ?_ ?_ (by assumption) ?_
  rotate_left 2
  · simp only [List.getElem?_toArray, List.getElem?_cons_succ, List.getElem?_cons_zero]; rfl
  · exact fun _ _ _ h => h
  · first
      | (refine Or.inr ⟨?_, ?_⟩ <;> rfl)
      | (refine Or.inl ⟨?_, ?_⟩; · rfl
         intro w hSw; (try dsimp only at hSw); go_simp; (try with_reducible rfl); done)
  try simp only [Act.put, List.setIfInBounds_toArray, List.set_cons_zero, List.set_cons_succ]
  refine wpAnyH_take (i := 4) (oi := ?_) (v := ?_) ?_ (by kernel_rfl) (by kernel_rfl) (by kernel_rfl) ?_ ?_ (by assumption) ?_
  rotate_left 2
  · simp only [List.getElem?_toArray, List.getElem?_cons_succ, List.getElem?_cons_zero]; rfl
  · exact fun _ _ _ h => h
  · first
      | (refine Or.inr ⟨?_, ?_⟩ <;> rfl)
      | (refine Or.inl ⟨?_, ?_⟩; · rfl
         intro w hSw; (try dsimp only at hSw); go_simp; (try with_reducible rfl); done)
  try simp only [Act.put, List.setIfInBounds_toArray, List.set_cons_zero, List.set_cons_succ]
  refine wpAnyH_take (i := 5) (oi := ?_) (v := ?_) ?_ (by kernel_rfl) (by kernel_rfl) (by kernel_rfl) ?_ ?_ (by assumption) ?_
  rotate_left 2
  · simp only [List.getElem?_toArray, List.getElem?_cons_succ, List.getElem?_cons_zero]; rfl
  · exact fun _ _ _ h => h
  · first
      | (refine Or.inr ⟨?_, ?_⟩ <;> rfl)
      | (refine Or.inl ⟨?_, ?_⟩; · rfl
         intro w hSw; (try dsimp only at hSw); go_simp; (try with_reducible rfl); done)
  try simp only [Act.put, List.setIfInBounds_toArray, List.set_cons_zero, List.set_cons_succ]
  refine wpAnyH_take (i := 6) (oi := ?_) (v := ?_) ?_ (by kernel_rfl) (by kernel_rfl) (by kernel_rfl) ?_ ?_ (by assumption) ?_
  rotate_left 2
  · simp only [List.getElem?_toArray, List.getElem?_cons_succ, List.getElem?_cons_zero]; rfl
  · exact fun _ _ _ h => h
  · first
      | (refine Or.inr ⟨?_, ?_⟩ <;> rfl)
      | (refine Or.inl ⟨?_, ?_⟩; · rfl
         intro w hSw; (try dsimp only at hSw); go_simp; (try with_reducible rfl); done)
  try simp only [Act.put, List.setIfInBounds_toArray, List.set_cons_zero, List.set_cons_succ]
  refine wpAnyH_take (i := 7) (oi := ?_) (v := ?_) ?_ (by kernel_rfl) (by kernel_rfl) (by kernel_rfl) ?_ ?_ (by assumption) ?_
  rotate_left 2
  · simp only [List.getElem?_toArray, List.getElem?_cons_succ, List.getElem?_cons_zero]; rfl
  · exact fun _ _ _ h => h
  · first
      | (refine Or.inr ⟨?_, ?_⟩ <;> rfl)
      | (refine Or.inl ⟨?_, ?_⟩; · rfl
         intro w hSw; (try dsimp only at hSw); go_simp; (try with_reducible rfl); done)
  try simp only [Act.put, List.setIfInBounds_toArray, List.set_cons_zero, List.set_cons_succ]
  refine wpAnyH_take (i := 8) (oi := ?_) (v := ?_) ?_ (by kernel_rfl) (by kernel_rfl) (by kernel_rfl) ?_ ?_ (by assumption) ?_
  rotate_left 2
  · simp only [List.getElem?_toArray, List.getElem?_cons_succ, List.getElem?_cons_zero]; rfl
  · exact fun _ _ _ h => h
  · first
      | (refine Or.inr ⟨?_, ?_⟩ <;> rfl)
      | (refine Or.inl ⟨?_, ?_⟩; · rfl
         intro w hSw; (try dsimp only at hSw); go_simp; (try with_reducible rfl); done)
  try simp only [Act.put, List.setIfInBounds_toArray, List.set_cons_zero, List.set_cons_succ]
  refine wpAnyH_take (i := 9) (oi := ?_) (v := ?_) ?_ (by kernel_rfl) (by kernel_rfl) (by kernel_rfl) ?_ ?_ (by assumption) ?_
  rotate_left 2
  · simp only [List.getElem?_toArray, List.getElem?_cons_succ, List.getElem?_cons_zero]; rfl
  · exact fun _ _ _ h => h
  · first
      | (refine Or.inr ⟨?_, ?_⟩ <;> rfl)
      | (refine Or.inl ⟨?_, ?_⟩; · rfl
         intro w hSw; (try dsimp only at hSw); go_simp; (try with_reducible rfl); done)
  try simp only [Act.put, List.setIfInBounds_toArray, List.set_cons_zero, List.set_cons_succ]
  refine wpAnyH_take (i := 10) (oi := ?_) (v := ?_) ?_ (by kernel_rfl) (by kernel_rfl) (by kernel_rfl) ?_ ?_ (by assumption) ?_
  rotate_left 2
  · simp only [List.getElem?_toArray, List.getElem?_cons_succ, List.getElem?_cons_zero]; rfl
  · exact fun _ _ _ h => h
  · first
      | (refine Or.inr ⟨?_, ?_⟩ <;> rfl)
      | (refine Or.inl ⟨?_, ?_⟩; · rfl
         intro w hSw; (try dsimp only at hSw); go_simp; (try with_reducible rfl); done)
  try simp only [Act.put, List.setIfInBounds_toArray, List.set_cons_zero, List.set_cons_succ]
  refine wpAnyH_take (i := 11) (oi := ?_) (v := ?_) ?_ (by kernel_rfl) (by kernel_rfl) (by kernel_rfl) ?_ ?_ (by assumption) ?_
  rotate_left 2
  · simp only [List.getElem?_toArray, List.getElem?_cons_succ, List.getElem?_cons_zero]; rfl
  · exact fun _ _ _ h => h
  · first
      | (refine Or.inr ⟨?_, ?_⟩ <;> rfl)
      | (refine Or.inl ⟨?_, ?_⟩; · rfl
         intro w hSw; (try dsimp only at hSw); go_simp; (try with_reducible rfl); done)
  try simp only [Act.put, List.setIfInBounds_toArray, List.set_cons_zero, List.set_cons_succ]
  refine wpAnyH_take (i := 12) (oi := ?_) (v := ?_) ?_ (by kernel_rfl) (by kernel_rfl) (by kernel_rfl) ?_ ?_ (by assumption) ?_
  rotate_left 2
  · simp only [List.getElem?_toArray, List.getElem?_cons_succ, List.getElem?_cons_zero]; rfl
  · exact fun _ _ _ h => h
  · first
      | (refine Or.inr ⟨?_, ?_⟩ <;> rfl)
      | (refine Or.inl ⟨?_, ?_⟩; · rfl
         intro w hSw; (try dsimp only at hSw); go_simp; (try with_reducible rfl); done)
  try simp only [Act.put, List.setIfInBounds_toArray, List.set_cons_zero, List.set_cons_succ]
  refine wpAnyH_take (i := 13) (oi := ?_) (v := ?_) ?_ (by kernel_rfl) (by kernel_rfl) (by kernel_rfl) ?_ ?_ (by assumption) ?_
  rotate_left 2
  · simp only [List.getElem?_toArray, List.getElem?_cons_succ, List.getElem?_cons_zero]; rfl
  · exact fun _ _ _ h => h
  · first
      | (refine Or.inr ⟨?_, ?_⟩ <;> rfl)
      | (refine Or.inl ⟨?_, ?_⟩; · rfl
         intro w hSw; (try dsimp only at hSw); go_simp; (try with_reducible rfl); done)
  try simp only [Act.put, List.setIfInBounds_toArray, List.set_cons_zero, List.set_cons_succ]
  refine wpAnyH_take (i := 14) (oi := ?_) (v := ?_) ?_ (by kernel_rfl) (by kernel_rfl) (by kernel_rfl) ?_ ?_ (by assumption) ?_
  rotate_left 2
  · simp only [List.getElem?_toArray, List.getElem?_cons_succ, List.getElem?_cons_zero]; rfl
  · exact fun _ _ _ h => h
  · first
      | (refine Or.inr ⟨?_, ?_⟩ <;> rfl)
      | (refine Or.inl ⟨?_, ?_⟩; · rfl
         intro w hSw; (try dsimp only at hSw); go_simp; (try with_reducible rfl); done)
  try simp only [Act.put, List.setIfInBounds_toArray, List.set_cons_zero, List.set_cons_succ]
  refine wpAnyH_take (i := 16) (oi := ?_) (v := ?_) ?_ (by kernel_rfl) (by kernel_rfl) (by kernel_rfl) ?_ ?_ (by assumption) ?_
  rotate_left 2
  · simp only [List.getElem?_toArray, List.getElem?_cons_succ, List.getElem?_cons_zero]; rfl
  · exact fun _ _ _ h => h
  · first
      | (refine Or.inr ⟨?_, ?_⟩ <;> rfl)
      | (refine Or.inl ⟨?_, ?_⟩; · rfl
         intro w hSw; (try dsimp only at hSw); go_simp; (try with_reducible rfl); done)
  try simp only [Act.put, List.setIfInBounds_toArray, List.set_cons_zero, List.set_cons_succ]
  refine wpAnyH_take (i := 19) (oi := ?_) (v := ?_) ?_ (by kernel_rfl) (by kernel_rfl) (by kernel_rfl) ?_ ?_ (by assumption) ?_
  rotate_left 2
  · simp only [List.getElem?_toArray, List.getElem?_cons_succ, List.getElem?_cons_zero]; rfl
  · exact fun _ _ _ h => h
  · first
      | (refine Or.inr ⟨?_, ?_⟩ <;> rfl)
      | (refine Or.inl ⟨?_, ?_⟩; · rfl
         intro w hSw; (try dsimp only at hSw); go_simp; (try with_reducible rfl); done)
  try simp only [Act.put, List.setIfInBounds_toArray, List.set_cons_zero, List.set_cons_succ]
  refine wpAnyH_ready (rs := [15]) (by kernel_rfl) (by simp) ?_
  refine AllReadyH.cons (o := ?_) ?_ (fun K hK => ?_) AllReadyH.nil
  rotate_left 1
  · simp only [List.getElem?_toArray, List.getElem?_cons_succ, List.getElem?_cons_zero]; rfl
  go_simp
  go_at_call 22
  go_must (refine Calls.mono (implRank_any _ (turnSg x) _ (swp s) (by omega) HM6.out.f2.reads (by show x.nb ≤ _; omega) (by show x.na ≤ _; omega)) ?_)
  rintro e w7 ⟨rfl, hb⟩
  have HM7 := Lib.hid (by first | exact HM6.out.below hb rfl | exact (HM6.out.below (Below.refl _ _).drew rfl).below hb rfl)
  clear hb
  have cc3 := HM7.out.b.x3.cell
  have cc4 := HM7.out.b.x4.cell
  rw [HSW.out, HR.out]
  refine hK.out _ _ ?_ (fun hHeld => ?_)
  · try dsimp only
    go_keep
  clear hK K
  try simp only [Act.put, List.setIfInBounds_toArray, List.set_cons_zero, List.set_cons_succ]
  refine wpAnyH_ready (rs := [17]) (by kernel_rfl) (by simp) ?_
  refine AllReadyH.cons (o := ?_) ?_ (fun K hK => ?_) AllReadyH.nil
  rotate_left 1
  · simp only [List.getElem?_toArray, List.getElem?_cons_succ, List.getElem?_cons_zero]; rfl
  go_simp
  go_at_call 16
  go_must (refine Calls.mono (implMany_any _ x _ HM7.out.f.reads (by omega) (by omega)) ?_)
  rintro e w8 ⟨rfl, hb⟩
  have HM8 := Lib.hid (by first | exact HM7.out.below hb rfl | exact (HM7.out.below (Below.refl _ _).drew rfl).below hb rfl)
  clear hb
  have cc3 := HM8.out.b.x3.cell
  have cc4 := HM8.out.b.x4.cell
  refine hK.out _ _ ?_ (fun hHeld => ?_)
  · try dsimp only
    go_keep
  clear hK K
  try simp only [Act.put, List.setIfInBounds_toArray, List.set_cons_zero, List.set_cons_succ]
  refine wpAnyH_take (i := 18) (oi := ?_) (v := ?_) ?_ (by kernel_rfl) (by kernel_rfl) (by kernel_rfl) ?_ ?_ (by assumption) ?_
  rotate_left 2
  · simp only [List.getElem?_toArray, List.getElem?_cons_succ, List.getElem?_cons_zero]; rfl
  · exact fun _ _ _ h => h
  · first
      | (refine Or.inr ⟨?_, ?_⟩ <;> rfl)
      | (refine Or.inl ⟨?_, ?_⟩; · rfl
         intro w hSw; (try dsimp only at hSw); go_simp; (try with_reducible rfl); done)
  try simp only [Act.put, List.setIfInBounds_toArray, List.set_cons_zero, List.set_cons_succ]
  refine wpAnyH_take (i := 20) (oi := ?_) (v := ?_) ?_ (by kernel_rfl) (by kernel_rfl) (by kernel_rfl) ?_ ?_ (by assumption) ?_
  rotate_left 2
  · simp only [List.getElem?_toArray, List.getElem?_cons_succ, List.getElem?_cons_zero]; rfl
  · exact fun _ _ _ h => h
  · first
      | (refine Or.inr ⟨?_, ?_⟩ <;> rfl)
      | (refine Or.inl ⟨?_, ?_⟩; · rfl
         intro w hSw; (try dsimp only at hSw); go_simp; (try with_reducible rfl); done)
  try simp only [Act.put, List.setIfInBounds_toArray, List.set_cons_zero, List.set_cons_succ]
  refine wpAnyH_take (i := 21) (oi := ?_) (v := ?_) ?_ (by kernel_rfl) (by kernel_rfl) (by kernel_rfl) ?_ ?_ (by assumption) ?_
  rotate_left 2
  · simp only [List.getElem?_toArray, List.getElem?_cons_succ, List.getElem?_cons_zero]; rfl
  · exact fun _ _ _ h => h
  · first
      | (refine Or.inr ⟨?_, ?_⟩ <;> rfl)
      | (refine Or.inl ⟨?_, ?_⟩; · rfl
         intro w hSw; (try dsimp only at hSw); go_simp; (try with_reducible rfl); done)
  try simp only [Act.put, List.setIfInBounds_toArray, List.set_cons_zero, List.set_cons_succ]
  refine wpAnyH_take (i := 22) (oi := ?_) (v := ?_) ?_ (by kernel_rfl) (by kernel_rfl) (by kernel_rfl) ?_ ?_ (by assumption) ?_
  rotate_left 2
  · simp only [List.getElem?_toArray, List.getElem?_cons_succ, List.getElem?_cons_zero]; rfl
  · exact fun _ _ _ h => h
  · first
      | (refine Or.inr ⟨?_, ?_⟩ <;> rfl)
      | (refine Or.inl ⟨?_, ?_⟩; · rfl
         intro w hSw; (try dsimp only at hSw); go_simp; (try with_reducible rfl); done)
  try simp only [Act.put, List.setIfInBounds_toArray, List.set_cons_zero, List.set_cons_succ]
  refine wpAnyH_take (i := 23) (oi := ?_) (v := ?_) ?_ (by kernel_rfl) (by kernel_rfl) (by kernel_rfl) ?_ ?_ (by assumption) ?_
  rotate_left 2
  · simp only [List.getElem?_toArray, List.getElem?_cons_succ, List.getElem?_cons_zero]; rfl
  · exact fun _ _ _ h => h
  · first
      | (refine Or.inr ⟨?_, ?_⟩ <;> rfl)
      | (refine Or.inl ⟨?_, ?_⟩; · rfl
         intro w hSw; (try dsimp only at hSw); go_simp; (try with_reducible rfl); done)
  try simp only [Act.put, List.setIfInBounds_toArray, List.set_cons_zero, List.set_cons_succ]
  refine wpAnyH_done (by kernel_rfl) ?_ _
  go_wp2_with fail
  go_ret
  exact ⟨rfl, HM8.out.b.bl⟩
end Go.Proofs.Ytnhkijfibiffnaa
