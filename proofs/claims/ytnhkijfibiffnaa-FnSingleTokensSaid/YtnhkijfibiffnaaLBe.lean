/-
  The laws FnBest and FnSoon: plain, and the walks.
-/
import Derived.Test.YtnhkijfibiffnaaDs
import Derived.Test.YtnhkijfibiffnaaOd
namespace Go.Proofs.Ytnhkijfibiffnaa
open Go.RowKit

theorem sg_at {base : Nat} {w W : World} {v : Value} {x : Sg} {o : Obj} (h : SgF base w v x) (hb : Below (w.heap.size + 1) (w.alloc o) W) : SgV W v x := h.reads.keep ((below_all _ _).trans (hb.mono (by omega)))
theorem law_end {w w1 W : World} {o : Obj} (h : Below w.heap.size w w1) (hb : Below (w1.heap.size + 1) (w1.alloc o) W) : Below w.heap.size w W := h.trans (((below_all _ _).trans (hb.mono (by omega))).mono h.size)
theorem manyV_le {x : Sg} (h : sgOk x = true) : manyV x = (pasc x.na x.nb : Int) := manyV_yes h
theorem nthOk_at {x : Sg} {k : Nat} (h : sgOk x = true) (hk : k < pasc x.na x.nb) : nthOk x (k : Int) = true := inB_true.2 ⟨by omega, by rw [manyV_yes h]; omega⟩
theorem nthS_at {x : Sg} {k : Nat} (h : sgOk x = true) (hk : k < pasc x.na x.nb) : nthS x (k : Int) = ordS x k := by
  rw [nthS_yes (nthOk_at h hk)]
  unfold nthFull ordS
  rw [Int.toNat_natCast]
theorem rank_ordS {x : Sg} {k : Nat} (h : sgOk x = true) (hk : k < pasc x.na x.nb) : rankV x (ordS x k) = (k : Int) := by
  have := rank_nthFull h hk
  unfold nthFull at this
  rw [Int.toNat_natCast] at this
  exact this
theorem bestK_lt (x : Sg) : bestK x < pasc x.na x.nb := minI_lt (pasc_pos _ _)
theorem best_min {x : Sg} {k : Nat} (hk : k < pasc x.na x.nb) : fW x (bestK x) ≤ fW x k := fstMin_min (fW x) (pasc x.na x.nb - 1) k (by omega)
theorem best_first {x : Sg} {k : Nat} (hk : k < bestK x) : fW x (bestK x) < fW x k := fstMin_first (fW x) (pasc x.na x.nb - 1) k hk

set_option maxRecDepth 100000 in
set_option maxHeartbeats 4000000 in
theorem lawBest_any (ao : Option Addr) (n c : Nat) (w : World) (hB : BSl w ao n) (hnc : n ≤ c) (hn : n ≤ 9223372036854775807) :
    Calls Try.prog 12 #[.slice ao n c] w fun e w' => e = .returned (.bool true) ∧ Below w.heap.size w w' := by
  have HBS := Lib.hid hB
  clear hB
  by_cases hlong : 1048576 < n
  · go_enter Try.func12, Try.ntmps12
    go_wp2_with fail
    go_ret
    exact ⟨rfl, Below.refl _ _⟩
  go_enter Try.func12, Try.ntmps12
  go_wp2_with fail
  refine (drawBest_any ao n c _ hnc hn HBS.out).mono ?_
  rintro e w1 ⟨v, x, rfl, hF, hL, hb1⟩
  have HF := Lib.hid hF
  have HBw := Lib.hid hb1
  have hz1 := hb1.size
  have hna := hL.na
  have hnb := hL.nb
  have HLL := Lib.hid hL
  obtain ⟨ga, ca, gb, cb, rfl, _⟩ := hF
  clear hb1 hL
  have HB0 : Hid (Below (w1.heap.size + 1) (w1.alloc (.cells #[.slice (some ⟨ga, 0, none⟩) x.na ca, .slice (some ⟨gb, 0, none⟩) x.nb cb, .int .i64 x.run, .int .i64 x.head] 25)) (w1.alloc (.cells #[.slice (some ⟨ga, 0, none⟩) x.na ca, .slice (some ⟨gb, 0, none⟩) x.nb cb, .int .i64 x.run, .int .i64 x.head] 25))) := Below.refl _ _
  have hbx := box_cells HB0.out (by omega)
  go_wp2_with fail
  refine (implBest_any _ x _ (sg_at HF.out HB0.out) (by omega) (by omega)).mono ?_
  rintro e w2 ⟨rfl, hb⟩
  have HB2 := Lib.hid (HB0.out.trans (hb.mono (by have := HB0.out.size; simp at this ⊢ <;> omega)))
  clear hb hbx
  have hbx := box_cells HB2.out (by omega)
  go_wp2_with fail
  refine (specBest_any _ x _ (sg_at HF.out HB2.out) (by omega) (by omega)).mono ?_
  rintro e w3 ⟨rfl, hb⟩
  have HB3 := Lib.hid (HB2.out.trans (hb.mono (by have := HB2.out.size; simp at this ⊢ <;> omega)))
  clear hb hbx
  have hbx := box_cells HB3.out (by omega)
  cases hs : sgOk x
  · have HS := Lib.hid hs
    clear hs
    go_wp2_with fail
    go_ret
    exact ⟨rfl, law_end HBw.out HB3.out⟩
  have hle := sgOk_le hs
  have HS := Lib.hid hs
  obtain ⟨hl1, hl2⟩ := hle
  clear hs
  have hbk := bestK_lt x
  have hP2 := pasc_le x.na x.nb (by omega)
  have HBe : Hid (bestS x = ordS x (bestK x)) := bestS_yes HS.out
  rw [HBe.out]
  have hsz : (ordS x (bestK x)).size ≤ 12 := by rw [ordS_size]; omega
  go_wp2_with fail
  refine (implMany_any _ x _ (sg_at HF.out HB3.out) (by omega) (by omega)).mono ?_
  rintro e w4 ⟨rfl, hb⟩
  have HB4 := Lib.hid (HB3.out.trans (hb.mono (by have := HB3.out.size; simp at this ⊢ <;> omega)))
  clear hb hbx
  have hbx := box_cells HB4.out (by omega)
  rw [manyV_le HS.out]
  go_wp2_with fail
  refine (implWait_any _ x _ (ordS x (bestK x)) (by omega) (sg_at HF.out HB4.out) (by omega) (by omega)).mono ?_
  rintro e w5 ⟨rfl, hb⟩
  have HB5 := Lib.hid (HB4.out.trans (hb.mono (by have := HB4.out.size; simp at this ⊢ <;> omega)))
  clear hb hbx
  have hbx := box_cells HB5.out (by omega)
  have hwe : Hid (waitV x (ordS x (bestK x)) = fW x (bestK x)) := rfl
  rw [hwe.out]
  go_wp2_with fail
  refine (implRank_any _ x _ (ordS x (bestK x)) (by omega) (sg_at HF.out HB5.out) (by omega) (by omega)).mono ?_
  rintro e w6 ⟨rfl, hb⟩
  have HB6 := Lib.hid (HB5.out.trans (hb.mono (by have := HB5.out.size; simp at this ⊢ <;> omega)))
  clear hb hbx
  have hbx := box_cells HB6.out (by omega)
  rw [rank_ordS HS.out hbk]
  go_wp2_with fail
  go_loopw [11, 12, 13, 14] (fun si _ _ _ wr => ∃ k : Nat, k ≤ pasc x.na x.nb ∧ si = .int .i64 k ∧ Below (w1.heap.size + 1) (w1.alloc (.cells #[.slice (some ⟨ga, 0, none⟩) x.na ca, .slice (some ⟨gb, 0, none⟩) x.nb cb, .int .i64 x.run, .int .i64 x.head] 25)) wr) (fun si _ _ _ _ => pasc x.na x.nb - (intOf si).toNat)
  case atStart => exact ⟨0, Nat.zero_le _, rfl, HB6.out⟩
  case round =>
    obtain ⟨k, hk, rfl, hb⟩ := hrel
    have HB7 := Lib.hid hb
    clear hb hbx
    have hbx := box_cells HB7.out (by omega)
    by_cases hlt : k < pasc x.na x.nb
    · have hmin := best_min hlt
      have hsk : (ordS x k).size ≤ 12 := by rw [ordS_size]; omega
      go_wp2_with fail
      refine (implNth_any _ x _ (k : Int) (by omega) (sg_at HF.out HB7.out) (by omega) (by omega)).mono ?_
      rintro e w8 ⟨rfl, hb⟩
      have HB8 := Lib.hid (HB7.out.trans (hb.mono (by have := HB7.out.size; simp at this ⊢ <;> omega)))
      clear hb hbx
      have hbx := box_cells HB8.out (by omega)
      rw [nthOk_at HS.out hlt, nthS_at HS.out hlt]
      go_wp2_with fail
      refine (implWait_any _ x _ (ordS x k) (by omega) (sg_at HF.out HB8.out) (by omega) (by omega)).mono ?_
      rintro e w9 ⟨rfl, hb⟩
      have HB9 := Lib.hid (HB8.out.trans (hb.mono (by have := HB8.out.size; simp at this ⊢ <;> omega)))
      clear hb hbx
      have hbx := box_cells HB9.out (by omega)
      have hwk : Hid (waitV x (ordS x k) = fW x k) := rfl
      rw [hwk.out]
      by_cases heq : fW x k = fW x (bestK x)
      · have hkr : bestK x ≤ k := by
          rcases Nat.lt_or_ge k (bestK x) with h | h
          · have := best_first h; omega
          · exact h
        have q1 : (fW x k == fW x (bestK x)) = true := by simp [heq]
        clear heq
        go_wp2_with fail
        go_roundw
        case rel => exact ⟨k + 1, by omega, by go_num, HB9.out⟩
        case measure => simp [intOf]; omega
      · have q1 : (fW x k == fW x (bestK x)) = false := by simp [heq]
        clear heq
        go_wp2_with fail
        go_roundw
        case rel => exact ⟨k + 1, by omega, by go_num, HB9.out⟩
        case measure => simp [intOf]; omega
    · have hp := fW_pos HS.out hbk
      go_wp2_with fail
      go_ret
      exact ⟨rfl, law_end HBw.out HB7.out⟩

/-- some value among the first k is v -/
def fndB (f : Nat → Int) (v : Int) : Nat → Bool
  | 0 => false
  | k + 1 => fndB f v k || f k == v
theorem fndB_yes {f : Nat → Int} {v : Int} {k : Nat} (h : fndB f v k = true) : fndB f v (k + 1) = true := by simp [fndB, h]
theorem fndB_at {f : Nat → Int} {v : Int} {k : Nat} (h : f k = v) : fndB f v (k + 1) = true := by simp [fndB, h]
theorem fndB_no {f : Nat → Int} {v : Int} {k : Nat} (h : fndB f v k = false) (h' : ¬ f k = v) : fndB f v (k + 1) = false := by simp [fndB, h, h']
theorem fndB_of {f : Nat → Int} {v : Int} {j : Nat} (h : f j = v) : ∀ k, j < k → fndB f v k = true
  | 0, hk => by omega
  | k + 1, hk => by
    by_cases e : j = k
    · subst e; exact fndB_at h
    · exact fndB_yes (fndB_of h k (by omega))

set_option maxRecDepth 100000 in
set_option maxHeartbeats 4000000 in
theorem lawSoon_any (ao : Option Addr) (n c : Nat) (w : World) (hB : BSl w ao n) (hnc : n ≤ c) (hn : n ≤ 9223372036854775807) :
    Calls Try.prog 10 #[.slice ao n c] w fun e w' => e = .returned (.bool true) ∧ Below w.heap.size w w' := by
  have HBS := Lib.hid hB
  clear hB
  by_cases hlong : 1048576 < n
  · go_enter Try.func10, Try.ntmps10
    go_wp2_with fail
    go_ret
    exact ⟨rfl, Below.refl _ _⟩
  go_enter Try.func10, Try.ntmps10
  go_wp2_with fail
  refine (drawSoon_any ao n c _ hnc hn HBS.out).mono ?_
  rintro e w1 ⟨v, x, rfl, hF, hL, hb1⟩
  have HF := Lib.hid hF
  have HBw := Lib.hid hb1
  have hz1 := hb1.size
  have hna := hL.na
  have hnb := hL.nb
  have HLL := Lib.hid hL
  obtain ⟨ga, ca, gb, cb, rfl, _⟩ := hF
  clear hb1 hL
  have HB0 : Hid (Below (w1.heap.size + 1) (w1.alloc (.cells #[.slice (some ⟨ga, 0, none⟩) x.na ca, .slice (some ⟨gb, 0, none⟩) x.nb cb, .int .i64 x.run, .int .i64 x.head] 25)) (w1.alloc (.cells #[.slice (some ⟨ga, 0, none⟩) x.na ca, .slice (some ⟨gb, 0, none⟩) x.nb cb, .int .i64 x.run, .int .i64 x.head] 25))) := Below.refl _ _
  have hbx := box_cells HB0.out (by omega)
  go_wp2_with fail
  refine (implSoon_any _ x _ (sg_at HF.out HB0.out) (by omega) (by omega)).mono ?_
  rintro e w2 ⟨rfl, hb⟩
  have HB2 := Lib.hid (HB0.out.trans (hb.mono (by have := HB0.out.size; simp at this ⊢ <;> omega)))
  clear hb hbx
  have hbx := box_cells HB2.out (by omega)
  go_wp2_with fail
  refine (specSoon_any _ x _ (sg_at HF.out HB2.out) (by omega) (by omega)).mono ?_
  rintro e w3 ⟨rfl, hb⟩
  have HB3 := Lib.hid (HB2.out.trans (hb.mono (by have := HB2.out.size; simp at this ⊢ <;> omega)))
  clear hb hbx
  have hbx := box_cells HB3.out (by omega)
  have gne : ∀ a : Int, (a != a) = false := fun a => by simp
  have geq : ∀ a : Int, (a == a) = true := fun a => by simp
  cases hs : sgOk x
  · have hv : soonV x < 0 := by rw [soonV_no hs]; omega
    clear hs
    go_wp2_with fail
    go_ret
    exact ⟨rfl, law_end HBw.out HB3.out⟩
  have hle := sgOk_le hs
  have HS := Lib.hid hs
  obtain ⟨hl1, hl2⟩ := hle
  have hP := pasc_pos x.na x.nb
  have hmk := minI_lt (f := fE x) hP
  have hP2 := pasc_le x.na x.nb (by omega)
  have hsv : 0 ≤ soonV x := by rw [soonV_yes hs]; exact fE_pos hs hmk
  have HSV := Lib.hid (soonV_yes hs)
  clear hs
  go_wp2_with fail
  refine (implMany_any _ x _ (sg_at HF.out HB3.out) (by omega) (by omega)).mono ?_
  rintro e w4 ⟨rfl, hb⟩
  have HB4 := Lib.hid (HB3.out.trans (hb.mono (by have := HB3.out.size; simp at this ⊢ <;> omega)))
  clear hb hbx
  have hbx := box_cells HB4.out (by omega)
  rw [manyV_le HS.out]
  go_wp2_with fail
  go_loopw [7, 8, 9, 10, 11] (fun sf si _ _ _ wr => ∃ k : Nat, k ≤ pasc x.na x.nb ∧ si = .int .i64 k ∧ sf = .bool (fndB (fE x) (soonV x) k) ∧ Below (w1.heap.size + 1) (w1.alloc (.cells #[.slice (some ⟨ga, 0, none⟩) x.na ca, .slice (some ⟨gb, 0, none⟩) x.nb cb, .int .i64 x.run, .int .i64 x.head] 25)) wr) (fun _ si _ _ _ _ => pasc x.na x.nb - (intOf si).toNat)
  case atStart => exact ⟨0, Nat.zero_le _, rfl, rfl, HB4.out⟩
  case round =>
    obtain ⟨k, hk, rfl, rfl, hb⟩ := hrel
    have HB7 := Lib.hid hb
    clear hb hbx
    have hbx := box_cells HB7.out (by omega)
    by_cases hlt : k < pasc x.na x.nb
    · have hmin : soonV x ≤ fE x k := by rw [HSV.out]; exact fstMin_min (fE x) (pasc x.na x.nb - 1) k (by omega)
      have hsk : (ordS x k).size ≤ 12 := by rw [ordS_size]; omega
      go_wp2_with fail
      refine (implNth_any _ x _ (k : Int) (by omega) (sg_at HF.out HB7.out) (by omega) (by omega)).mono ?_
      rintro e w8 ⟨rfl, hb⟩
      have HB8 := Lib.hid (HB7.out.trans (hb.mono (by have := HB7.out.size; simp at this ⊢ <;> omega)))
      clear hb hbx
      have hbx := box_cells HB8.out (by omega)
      rw [nthOk_at HS.out hlt, nthS_at HS.out hlt]
      go_wp2_with fail
      refine (implEnd_any _ x _ (ordS x k) (by omega) (sg_at HF.out HB8.out) (by omega) (by omega)).mono ?_
      rintro e w9 ⟨rfl, hb⟩
      have HB9 := Lib.hid (HB8.out.trans (hb.mono (by have := HB8.out.size; simp at this ⊢ <;> omega)))
      clear hb hbx
      have hbx := box_cells HB9.out (by omega)
      have hwk : Hid (endV x (ordS x k) = fE x k) := rfl
      rw [hwk.out]
      cases hf : fndB (fE x) (soonV x) k
      · by_cases heq : fE x k = soonV x
        · have HN : Hid (fndB (fE x) (soonV x) (k + 1) = true) := fndB_at heq
          have q1 : (fE x k == soonV x) = true := by simp [heq]
          clear heq hf
          go_wp2_with fail
          go_roundw
          case rel => exact ⟨k + 1, by omega, by go_num, by rw [HN.out], HB9.out⟩
          case measure => simp [intOf]; omega
        · have HN : Hid (fndB (fE x) (soonV x) (k + 1) = false) := fndB_no hf heq
          have q1 : (fE x k == soonV x) = false := by simp [heq]
          clear heq hf
          go_wp2_with fail
          go_roundw
          case rel => exact ⟨k + 1, by omega, by go_num, by rw [HN.out], HB9.out⟩
          case measure => simp [intOf]; omega
      · have HN : Hid (fndB (fE x) (soonV x) (k + 1) = true) := fndB_yes hf
        clear hf
        go_wp2_with fail
        go_roundw
        case rel => exact ⟨k + 1, by omega, by go_num, by rw [HN.out], HB9.out⟩
        case measure => simp [intOf]; omega
    · obtain rfl : k = pasc x.na x.nb := by omega
      have hf : fndB (fE x) (soonV x) (pasc x.na x.nb) = true := fndB_of HSV.out.symm _ hmk
      by_cases ha0 : 0 < x.na
      · by_cases hb0 : 0 < x.nb
        · go_wp2_with fail
          go_ret
          exact ⟨rfl, law_end HBw.out HB7.out⟩
        · have q1 : ((pasc x.na x.nb : Int) == 1) = true := by
            rw [show x.nb = 0 from by omega, pasc_right]; rfl
          go_wp2_with fail
          go_ret
          exact ⟨rfl, law_end HBw.out HB7.out⟩
      · have q1 : ((pasc x.na x.nb : Int) == 1) = true := by
          rw [show x.na = 0 from by omega, pasc_left]; rfl
        go_wp2_with fail
        go_ret
        exact ⟨rfl, law_end HBw.out HB7.out⟩
end Go.Proofs.Ytnhkijfibiffnaa
