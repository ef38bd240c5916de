/-
  The law FnSingleNth: the walk. (under way)
-/
import Derived.Test.YtnhkijfibiffnaaDn
import Derived.Test.YtnhkijfibiffnaaLWa
import Derived.WalkLawsBesides
import Derived.Lib.Strings
namespace Go.Proofs.Ytnhkijfibiffnaa
open Go.RowKit

theorem less_L : ∀ (x y : List UInt8), x < y → Op.bytesLess x y = true
  | [], [], h => absurd h (by simp)
  | _ :: _, [], h => absurd h (by simp)
  | [], _ :: _, _ => by simp [Op.bytesLess]
  | a :: x, b :: y, h => by
    rw [List.cons_lt_cons_iff] at h
    rw [Op.bytesLess]
    rcases h with h | ⟨rfl, h⟩
    · simp [h]
    · simp [less_L x y h]
theorem less_ord {x : Sg} {k : Nat} (h : k + 1 < pasc x.na x.nb) : Op.bytesLess (ordS x k).toList (ordS x (k + 1)).toList = true := by
  rw [Lib.toList_data, Lib.toList_data]
  refine less_L _ _ ?_
  have := nthL_lt (x.na + x.nb) x.na x.nb k (k + 1) rfl (by omega) h
  simpa [ordS, strOf] using this
set_option maxRecDepth 100000 in
set_option maxHeartbeats 4000000 in
theorem lawNth_any3 (ao : Option Addr) (n c : Nat) (w : World) (hB : BSl w ao n) (hnc : n ≤ c) (hn : n ≤ 9223372036854775807) :
    Calls Try.prog 4 #[.slice ao n c] w fun e w' => e = .returned (.bool true) ∧ Below w.heap.size w w' := by
  have HBS := Lib.hid hB
  clear hB
  by_cases hlong : 1048576 < n
  · go_enter Try.func4, Try.ntmps4
    go_wp2_with fail
    go_ret
    exact ⟨rfl, Below.refl _ _⟩
  go_enter Try.func4, Try.ntmps4
  go_wp2_with fail
  refine (drawNth_any ao n c _ hnc hn HBS.out).mono ?_
  rintro e w1 ⟨v, x, r, rfl, hF, hL, hr, hb1⟩
  have HF := Lib.hid hF
  have HBw := Lib.hid hb1
  have hz1 := hb1.size
  have hna := hL.na
  have hnb := hL.nb
  have HLL := Lib.hid hL
  obtain ⟨ga, ca, gb, cb, rfl, _⟩ := hF
  clear hb1 hL
  have HB0 : Hid (Below (w1.heap.size + 1) (w1.alloc (.cells #[.slice (some ⟨ga, 0, none⟩) x.na ca, .slice (some ⟨gb, 0, none⟩) x.nb cb, .int .i64 x.run, .int .i64 x.head] 25)) (w1.alloc (.cells #[.slice (some ⟨ga, 0, none⟩) x.na ca, .slice (some ⟨gb, 0, none⟩) x.nb cb, .int .i64 x.run, .int .i64 x.head] 25))) := Below.refl _ _
  have hbx := box_cells HB0.out (by omega)
  go_wp2_with fail
  refine (implNth_any _ x _ r hr (sg_at HF.out HB0.out) (by omega) (by omega)).mono ?_
  rintro e w2 ⟨rfl, hb⟩
  have HB2 := Lib.hid (HB0.out.trans (hb.mono (by have := HB0.out.size; simp at this ⊢ <;> omega)))
  clear hb hbx
  have hbx := box_cells HB2.out (by omega)
  go_wp2_with fail
  refine (specNth_any _ x _ r hr (sg_at HF.out HB2.out) (by omega) (by omega)).mono ?_
  rintro e w3 ⟨rfl, hb⟩
  have HB3 := Lib.hid (HB2.out.trans (hb.mono (by have := HB2.out.size; simp at this ⊢ <;> omega)))
  clear hb hbx
  have hbx := box_cells HB3.out (by omega)
  cases hok : nthOk x r
  · clear hok
    go_wp2_with fail
    go_ret
    exact ⟨rfl, law_end HBw.out HB3.out⟩
  have hsg := (nthOk_valid hok).1
  obtain ⟨k, rfl⟩ : ∃ k : Nat, r = (k : Int) := ⟨r.toNat, by have := (nthOk_valid hok).2; omega⟩
  have hk : k < pasc x.na x.nb := by have := (nthOk_valid hok).2; omega
  have HS := Lib.hid hsg
  have HNS := Lib.hid (nthS_at hsg hk)
  have hP2 := pasc_le x.na x.nb (by omega)
  clear hok hsg
  rw [HNS.out]
  have hsk : (ordS x k).size ≤ 12 := by rw [ordS_size]; omega
  have HOKS := Lib.hid (ordS_ok HS.out hk)
  have HRK := Lib.hid (rank_ordS HS.out hk)
  have geq : ∀ a : Int, (a == a) = true := fun a => by simp
  go_wp2_with fail
  refine (implNth_any _ x _ ((k : Int) + 1) (by omega) (sg_at HF.out HB3.out) (by omega) (by omega)).mono ?_
  rintro e w4 ⟨rfl, hb⟩
  have HB4 := Lib.hid (HB3.out.trans (hb.mono (by have := HB3.out.size; simp at this ⊢ <;> omega)))
  clear hb hbx
  have hbx := box_cells HB4.out (by omega)
  by_cases hl : k + 1 < pasc x.na x.nb
  · have h4 := nthOk_at HS.out hl
    have h5 := nthS_at HS.out hl
    rw [show ((k + 1 : Nat) : Int) = (k : Int) + 1 from by omega] at h4 h5
    rw [h4, h5]
    have hless : Op.bytesLess (ordS x k).toList (ordS x (k + 1)).toList = true := less_ord hl
    clear h4 h5
    go_wp2_with fail
    refine (implStarts_any _ x _ (ordS x k) (by omega) (sg_at HF.out HB4.out) (by omega) (by omega)).mono ?_
    rintro e w5 ⟨g5, c5, rfl, hg5, hO5, hb5⟩
    have HB5 := Lib.hid (HB4.out.trans (hb5.mono (by have := HB4.out.size; simp at this ⊢ <;> omega)))
    rw [HOKS.out]
    clear hb5 hbx hO5
    have hbx := box_cells HB5.out (by omega)
    go_wp2_with fail
    refine (implRank_any _ x _ (ordS x k) (by omega) (sg_at HF.out HB5.out) (by omega) (by omega)).mono ?_
    rintro e w6 ⟨rfl, hb⟩
    have HB6 := Lib.hid (HB5.out.trans (hb.mono (by have := HB5.out.size; simp at this ⊢ <;> omega)))
    clear hb hbx
    have hbx := box_cells HB6.out (by omega)
    rw [HRK.out]
    go_wp2_with fail
    go_ret
    exact ⟨rfl, law_end HBw.out HB6.out⟩
  · have h4 : nthOk x ((k : Int) + 1) = false := by
      cases h : nthOk x ((k : Int) + 1)
      · rfl
      · have := (nthOk_valid h).2; omega
    rw [h4]
    have hkp : (k : Int) = (pasc x.na x.nb : Int) - 1 := by omega
    have q5 : ((k : Int) == (pasc x.na x.nb : Int) - 1) = true := by rw [hkp]; simp
    clear h4 hkp
    go_wp2_with fail
    refine (implStarts_any _ x _ (ordS x k) (by omega) (sg_at HF.out HB4.out) (by omega) (by omega)).mono ?_
    rintro e w5 ⟨g5, c5, rfl, hg5, hO5, hb5⟩
    have HB5 := Lib.hid (HB4.out.trans (hb5.mono (by have := HB4.out.size; simp at this ⊢ <;> omega)))
    rw [HOKS.out]
    clear hb5 hbx hO5
    have hbx := box_cells HB5.out (by omega)
    go_wp2_with fail
    refine (implRank_any _ x _ (ordS x k) (by omega) (sg_at HF.out HB5.out) (by omega) (by omega)).mono ?_
    rintro e w6 ⟨rfl, hb⟩
    have HB6 := Lib.hid (HB5.out.trans (hb.mono (by have := HB5.out.size; simp at this ⊢ <;> omega)))
    clear hb hbx
    have hbx := box_cells HB6.out (by omega)
    rw [HRK.out]
    go_wp2_with fail
    refine (implMany_any _ x _ (sg_at HF.out HB6.out) (by omega) (by omega)).mono ?_
    rintro e w7 ⟨rfl, hb⟩
    have HB7 := Lib.hid (HB6.out.trans (hb.mono (by have := HB6.out.size; simp at this ⊢ <;> omega)))
    clear hb hbx
    have hbx := box_cells HB7.out (by omega)
    rw [manyV_le HS.out]
    go_wp2_with fail
    go_ret
    exact ⟨rfl, law_end HBw.out HB7.out⟩
end Go.Proofs.Ytnhkijfibiffnaa
