/-
  The law FnSingleTokens: plain, and the walk.
-/
import Derived.Test.YtnhkijfibiffnaaTk
import Derived.Test.YtnhkijfibiffnaaLRk
namespace Go.Proofs.Ytnhkijfibiffnaa
open Go.RowKit

theorem kinds_cnt (s : ByteArray) : ∀ k, k + 1 ≤ s.size → cntT 83 (bt (strOf (lstF s.size (kdU s)))) k = chT (bt s) k
  | 0, _ => rfl
  | k + 1, hk => by
    have ih := kinds_cnt s k (by omega)
    simp only [cntT, chT]
    rw [ih, bt_lst (show k < s.size by omega)]
    by_cases h : bt s (k + 1) = bt s k
    · rw [if_pos h, if_neg]
      unfold kdU
      rw [if_neg (fun e => e.2 h)]
      decide
    · rw [if_neg h, if_pos]
      unfold kdU
      rw [if_pos ⟨by omega, h⟩]
      rfl
theorem kinds_all {s : ByteArray} (h0 : 0 < s.size) : cntT 83 (bt (strOf (lstF s.size (kdU s)))) s.size = chT (bt s) (s.size - 1) := by
  have h := kinds_cnt s (s.size - 1) (by omega)
  obtain ⟨n, hn⟩ : ∃ n, s.size = n + 1 := ⟨s.size - 1, by omega⟩
  rw [← h]
  have h1 : cntT 83 (bt (strOf (lstF s.size (kdU s)))) (s.size - 1 + 1) = cntT 83 (bt (strOf (lstF s.size (kdU s)))) (s.size - 1) := by
    simp only [cntT]
    rw [bt_lst (show s.size - 1 < s.size by omega), if_neg]
    unfold kdU
    rw [if_neg (fun e => by have := e.1; omega)]
    decide
  rwa [show s.size - 1 + 1 = s.size from by omega] at h1
theorem loop_len (s : ByteArray) : ∀ (n i : Nat) (r : List UInt8), s.size - i = n → (ByteArray.toList.loop s i r).length = n + r.length
  | 0, i, r, h => by
    rw [ByteArray.toList.loop, if_neg (by omega)]
    simp
  | n + 1, i, r, h => by
    rw [ByteArray.toList.loop, if_pos (by omega), loop_len s n (i + 1) _ (by omega)]
    simp
    omega
theorem toList_pos {s : ByteArray} (h : 0 < s.size) : s.toList.isEmpty = false := by
  have := loop_len s s.size 0 [] (by omega)
  cases e : s.toList with
  | nil =>
    have e' : ByteArray.toList.loop s 0 [] = [] := e
    rw [e'] at this
    simp at this
    omega
  | cons c l => rfl
theorem lst_size (n : Nat) (f : Nat → UInt8) : (strOf (lstF n f)).size = n := by rw [strOf_size, lstF_len]
set_option maxRecDepth 100000 in
set_option maxHeartbeats 8000000 in
theorem lawTokens_any3 (ao : Option Addr) (n c : Nat) (w : World) (hB : BSl w ao n) (hnc : n ≤ c) (hn : n ≤ 9223372036854775807) :
    Calls Try.prog 14 #[.slice ao n c] w fun e w' => e = .returned (.bool true) ∧ Below w.heap.size w w' := by
  have HBS := Lib.hid hB
  clear hB
  by_cases hlong : 1048576 < n
  · go_enter Try.func14, Try.ntmps14
    go_wp2_with fail
    go_ret
    exact ⟨rfl, Below.refl _ _⟩
  go_enter Try.func14, Try.ntmps14
  go_wp2_with fail
  refine (drawStarts_any ao n c _ hnc hn HBS.out).mono ?_
  rintro e w1 ⟨v, x, s, rfl, hF, hL, hs, hb1⟩
  have HF := Lib.hid hF
  have HBw := Lib.hid hb1
  have hz1 := hb1.size
  have hna := hL.na
  have hnb := hL.nb
  have HLL := Lib.hid hL
  obtain ⟨ga, ca, gb, cb, rfl, _⟩ := hF
  clear hb1 hL
  have HB0 : Hid (Below (w1.heap.size + 1) (w1.alloc (.cells #[.slice (some ⟨ga, 0, none⟩) x.na ca, .slice (some ⟨gb, 0, none⟩) x.nb cb, .int .i64 x.run, .int .i64 x.head] 25)) (w1.alloc (.cells #[.slice (some ⟨ga, 0, none⟩) x.na ca, .slice (some ⟨gb, 0, none⟩) x.nb cb, .int .i64 x.run, .int .i64 x.head] 25))) := Below.refl _ _
  have hbx := box_cells HB0.out (by omega)
  go_wp2_with fail
  refine (implStarts_any _ x _ s (by omega) (sg_at HF.out HB0.out) (by omega) (by omega)).mono ?_
  rintro e w2 ⟨g1, c1, rfl, hg1, hO1, hb2⟩
  have HO1 := Lib.hid hO1
  have HB2 := Lib.hid (HB0.out.trans (hb2.mono (by have := HB0.out.size; simp at this ⊢ <;> omega)))
  have hsz2 := hO1.lt
  clear hb2 hbx hO1
  have hbx := box_cells HB2.out (by omega)
  go_wp2_with fail
  refine (specStarts_any _ x _ s (by omega) (sg_at HF.out HB2.out) (by omega) (by omega)).mono ?_
  rintro e w3 ⟨g2, c2, rfl, hg2, hO2, hb3⟩
  have HO2 := Lib.hid hO2
  have HO := Lib.hid (HO1.out.below hb3 HO1.out.lt)
  have HB3 := Lib.hid (HB2.out.trans (hb3.mono (by have := HB2.out.size; simp at this ⊢ <;> omega)))
  clear hb3 hbx hO2
  have hbx := box_cells HB3.out (by omega)
  have hstn : stN x s ≤ 12 := by unfold stN; split <;> omega
  have hso : ∀ W, Dr w3 W → Calls Try.prog 36 #[.slice (some ⟨g1, 0, none⟩) (stN x s) c1, .slice (some ⟨g2, 0, none⟩) (stN x s) c2] W fun e w' => e = .returned (.bool true) ∧ Dr W w' := fun W hW => by
    obtain ⟨q, rfl⟩ := hW
    refine (sameInts_any g1 0 (stN x s) c1 g2 0 (stN x s) c2 _ _ _ (by omega) (by omega) (IC.of_own (HO.out.drewN q)) (IC.of_own (HO2.out.drewN q))).mono ?_
    rintro e w' ⟨rfl, h⟩
    exact ⟨by rw [eqSl_true.2 ⟨rfl, fun _ _ => rfl⟩], h⟩
  have HSO := Lib.hid hso
  clear hso
  cases hok : stOk x s
  · have HK := Lib.hid hok
    clear hok
    go_wp2_with fail
    refine (HSO.out _ (Dr.refl _)).mono ?_
    rintro e w4 ⟨rfl, q, rfl⟩
    go_wp2_with fail
    refine (HSO.out _ ⟨q, rfl⟩).mono ?_
    rintro e w5 ⟨rfl, q2, rfl⟩
    go_wp2_with fail
    go_ret
    exact ⟨rfl, law_end HBw.out (HB3.out.trans (below_dr (by repeat (first | exact Dr.refl _ | exact ⟨_, rfl⟩ | refine Dr.drewN ?_ _)) _))⟩
  have HK := Lib.hid hok
  have hx := (stOk_parts hok).1
  have ho := (stOk_parts hok).2
  have HX := Lib.hid hx
  have HOK := Lib.hid ho
  have hhd := hx.head
  have hrn := hx.run
  have HCN : Hid (cntU (bt s) s.size = x.na ∧ s.size = x.na + x.nb) := (ordOk_true.1 ho).2
  have HN := Lib.hid (stN_yes hok)
  clear hok ho hx
  go_wp2_with fail
  refine (HSO.out _ (Dr.refl _)).mono ?_
  rintro e w4 ⟨rfl, hd4⟩
  have hO4 : Own w4 g1 c1 (stN x s) 1 3 (fun i => .int .i64 (stT x (bt s) i)) := by
    obtain ⟨q, rfl⟩ := hd4
    exact HO.out.drewN q
  rw [HN.out] at hO4
  rw [HN.out]
  have HB4 := Lib.hid (HB3.out.trans (below_dr hd4 _))
  have HFr : Hid (SgF w.heap.size w4 (.agg #[.slice (some ⟨ga, 0, none⟩) x.na ca, .slice (some ⟨gb, 0, none⟩) x.nb cb, .int .i64 x.run, .int .i64 x.head]) x) := HF.out.keep ((below_all _ _).trans (HB4.out.mono (by omega)))
  have HOW := Lib.hid HFr.out.owns
  have HDV := Lib.hid (ord_dirV HK.out hs)
  clear hd4 HO hbx hstn
  have hbx := box_cells HB4.out (by omega)
  go_wp2_with fail
  refine (needs_any s _ HDV.out).mono ?_
  rintro e w5 ⟨a, b, rfl, ha, hb, rfl⟩
  rw [HCN.out.1] at ha hb
  have hb' : b ≤ x.nb := by have := HCN.out.2; omega
  clear hb
  by_cases h0 : s.size = 0
  · have hse : s = ⟨#[]⟩ := by
      apply ByteArray.ext
      exact Array.eq_empty_of_size_eq_zero h0
    have HSE : Hid (stN x s = 0) := by show _ = _; rw [HN.out]; exact h0
    subst hse
    have hz : ((({ data := #[] } : ByteArray).size : Nat) : Int) = 0 := rfl
    go_wp2_with fail
    go_ret
    exact ⟨rfl, law_end HBw.out HB4.out⟩
  · have h0' : 0 < s.size := by omega
    have hbt0 := bt_at h0'
    have hod := (ordOk_true.1 HOK.out).1 0 h0'
    have HKC := Lib.hid (kinds_all h0')
    have hkz := lst_size s.size (kdU s)
    have HKZ := Lib.hid hkz
    have hkl : (strOf (lstF s.size (kdU s))).size ≤ 1048576 := by omega
    have gsne := toList_pos h0'
    clear hkz
    by_cases hU : bt s 0 = 85
    · have HE : Hid ((0 : Int) = endOf (bt s 0)) := by show _ = _; unfold endOf; rw [if_pos hU]
      have g1 : (bt s 0 == 68) = false := by simp [hU]
      clear hU hod
      go_wp2_with fail
      refine (kinds_any s 0 _ HDV.out h0' HE.out).mono ?_
      rintro e w6 ⟨rfl, hb⟩
      have HB6 := Lib.hid (HB4.out.trans (hb.mono (by have := HB4.out.size; simp at this ⊢ <;> omega)))
      clear hb hbx
      go_wp2_with fail
      refine (countOf_any _ 83 _ hkl).mono ?_
      rintro e w7 ⟨rfl, rfl⟩
      rw [HKZ.out, HKC.out]
      go_wp2_with fail
      refine (changes_any s _ HDV.out h0').mono ?_
      rintro e w8 ⟨rfl, q8, rfl⟩
      have geq : ∀ a : Int, (a == a) = true := fun a => by simp
      go_wp2_with fail
      go_ret
      exact ⟨rfl, law_end HBw.out (HB6.out.trans (below_dr (by repeat (first | exact Dr.refl _ | exact ⟨_, rfl⟩ | refine Dr.drewN ?_ _)) _))⟩
    · have HE : Hid ((1 : Int) = endOf (bt s 0)) := by show _ = _; unfold endOf; rw [if_neg hU]
      have g1 : (bt s 0 == 68) = true := by
        rcases hod with h | h
        · exact absurd h hU
        · simp [h]
      clear hU hod
      go_wp2_with fail
      refine (kinds_any s 1 _ HDV.out h0' HE.out).mono ?_
      rintro e w6 ⟨rfl, hb⟩
      have HB6 := Lib.hid (HB4.out.trans (hb.mono (by have := HB4.out.size; simp at this ⊢ <;> omega)))
      clear hb hbx
      go_wp2_with fail
      refine (countOf_any _ 83 _ hkl).mono ?_
      rintro e w7 ⟨rfl, rfl⟩
      rw [HKZ.out, HKC.out]
      go_wp2_with fail
      refine (changes_any s _ HDV.out h0').mono ?_
      rintro e w8 ⟨rfl, q8, rfl⟩
      have geq : ∀ a : Int, (a == a) = true := fun a => by simp
      go_wp2_with fail
      go_ret
      exact ⟨rfl, law_end HBw.out (HB6.out.trans (below_dr (by repeat (first | exact Dr.refl _ | exact ⟨_, rfl⟩ | refine Dr.drewN ?_ _)) _))⟩
end Go.Proofs.Ytnhkijfibiffnaa
