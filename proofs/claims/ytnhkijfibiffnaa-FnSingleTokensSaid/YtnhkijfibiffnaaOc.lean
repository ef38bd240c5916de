/-
  Walks: SingleBest and SingleSoon of the reference.
-/
import Derived.Test.YtnhkijfibiffnaaOb
namespace Go.Proofs.Ytnhkijfibiffnaa
open Go.RowKit

/-- the k-th order of the trains of a line; its wait, its end -/
def ordS (x : Sg) (k : Nat) : ByteArray := strOf (nthL (x.na + x.nb) x.na x.nb k)
def fW (x : Sg) (k : Nat) : Int := waitV x (ordS x k)
def fE (x : Sg) (k : Nat) : Int := endV x (ordS x k)
theorem ordS_size (x : Sg) (k : Nat) : (ordS x k).size = x.na + x.nb := strOf_len _ _ _ _
/-- the place of the least among the first k, the first of them -/
def minI (f : Nat → Int) (k : Nat) : Nat := fstMin f (k - 1)
theorem minI_lt {f : Nat → Int} {k : Nat} (hk : 0 < k) : minI f k < k := by have := fstMin_le f (k - 1); unfold minI; omega
theorem minI_yes {f : Nat → Int} {k : Nat} (h : f k < f (minI f k)) : minI f (k + 1) = k := by
  unfold minI at *
  cases k with
  | zero => rfl
  | succ k =>
    have h' : f (k + 1) < f (fstMin f k) := h
    show fstMin f (k + 1) = k + 1
    simp only [fstMin]
    rw [if_pos h']
theorem minI_no {f : Nat → Int} {k : Nat} (h : ¬ f k < f (minI f k)) : minI f (k + 1) = minI f k := by
  unfold minI at *
  cases k with
  | zero => rfl
  | succ k =>
    have h' : ¬ f (k + 1) < f (fstMin f k) := h
    show fstMin f (k + 1) = fstMin f k
    simp only [fstMin]
    rw [if_neg h']
theorem minI_le (f : Nat → Int) (k : Nat) : minI f k ≤ k := by have := fstMin_le f (k - 1); unfold minI; omega
def bestK (x : Sg) : Nat := minI (fW x) (pasc x.na x.nb)
def bestS (x : Sg) : ByteArray := if sgOk x = true then ordS x (bestK x) else ⟨#[]⟩
theorem bestS_no {x : Sg} (h : sgOk x = false) : bestS x = ⟨#[]⟩ := if_neg (by rw [h]; simp)
theorem bestS_yes {x : Sg} (h : sgOk x = true) : bestS x = ordS x (bestK x) := if_pos h
def soonV (x : Sg) : Int := if sgOk x = true then fE x (minI (fE x) (pasc x.na x.nb)) else -1
theorem soonV_no {x : Sg} (h : sgOk x = false) : soonV x = -1 := if_neg (by rw [h]; simp)
theorem soonV_yes {x : Sg} (h : sgOk x = true) : soonV x = fE x (minI (fE x) (pasc x.na x.nb)) := if_pos h

theorem ite_min (a b : Int) : (if b < a then b else a) = min a b := by split <;> omega
theorem specWaitK_any (v : Value) (x : Sg) (w : World) (k : Nat) (hx : x.na + x.nb ≤ 12) (hv : SgV w v x) :
    Calls Try.prog 50 #[v, .string (ordS x k)] w fun e w' => e = .returned (.int .i64 (fW x k)) ∧ Below w.heap.size w w' :=
  specWait_any v x w (ordS x k) (by rw [ordS_size]; omega) hv (by omega) (by omega)
theorem specEndK_any (v : Value) (x : Sg) (w : World) (k : Nat) (hx : x.na + x.nb ≤ 12) (hv : SgV w v x) :
    Calls Try.prog 41 #[v, .string (ordS x k)] w fun e w' => e = .returned (.int .i64 (fE x k)) ∧ Below w.heap.size w w' :=
  specEnd_any v x w (ordS x k) (by rw [ordS_size]; omega) hv (by omega) (by omega)

set_option maxRecDepth 100000 in
set_option maxHeartbeats 4000000 in
theorem specBest_any (v : Value) (x : Sg) (w : World) (hv : SgV w v x) (ha : x.na ≤ 1000000000000000) (hb : x.nb ≤ 1000000000000000) :
    Calls Try.prog 48 #[v] w fun e w' => e = .returned (.tuple #[.string (bestS x), .bool (sgOk x)]) ∧ Below w.heap.size w w' := by
  have hbb : ∀ a, Below w.heap.size w (w.alloc a) := fun a => (Below.refl _ _).alloc (Nat.le_refl _) _
  have hv0 := hv
  obtain ⟨ba, oa, ca, bb, ob, cb, rfl, hca, hcb⟩ := hv
  clear hca hcb
  have HV := Lib.hid hv0
  clear hv0
  go_enter Try.func48, Try.ntmps48
  go_wp2_with fail
  refine (specValid_any _ x _ (HV.out.keep (hbb _)) (by omega) (by omega)).mono ?_
  rintro e w1 ⟨rfl, hb1⟩
  rw [World.size_alloc] at hb1
  have hbox := box_cells hb1 (by omega)
  have hz1 : w.heap.size + 1 ≤ w1.heap.size := by have := hb1.size; simpa using this
  have HB1 := Lib.hid hb1
  clear hb1
  cases hs : sgOk x
  · have HS := Lib.hid hs
    clear hs
    go_wp2_with fail
    go_ret2; exact ⟨retPair (bestS_no HS.out).symm HS.out.symm, (hbb _).trans (HB1.out.mono (by omega))⟩
  have hle := sgOk_le hs
  have HS := Lib.hid hs
  obtain ⟨hl1, hl2⟩ := hle
  clear hs
  go_wp2_with fail
  refine (l8All_any (x.na + x.nb) x.na x.nb _ rfl (by omega)).mono ?_
  rintro e w2 ⟨g, cg, rfl, hg, ho, hb2⟩
  have HO := Lib.hid ho
  have HB2 := Lib.hid (HB1.out.trans (hb2.mono (by omega)))
  have hP := pasc_pos x.na x.nb
  have hP2 := pasc_le x.na x.nb (by omega)
  have hlg := ho.lt
  clear ho hb2 hbox
  go_wp2_with fail
  go_loopw [5, 6] (fun sm si wr => ∃ k : Nat, k ≤ pasc x.na x.nb ∧ si = .int .i64 k ∧ sm = .int .i64 (minI (fW x) k : Nat) ∧ Own wr g cg (pasc x.na x.nb) 1 9 (ordV x.na x.nb) ∧
      Below (w.heap.size + 1) (w.alloc (.cells #[.slice (some ⟨ba, oa, none⟩) x.na ca, .slice (some ⟨bb, ob, none⟩) x.nb cb, .int .i64 x.run, .int .i64 x.head] 25)) wr) (fun _ si _ => pasc x.na x.nb - (intOf si).toNat)
  case atStart => exact ⟨0, Nat.zero_le _, rfl, rfl, HO.out, HB2.out⟩
  case round =>
    obtain ⟨k, hk, rfl, rfl, ho, hb⟩ := hrel
    have hbx := box_cells hb (by omega)
    have HOr := Lib.hid ho
    have HB := Lib.hid hb
    have hmk := minI_le (fW x) k
    clear ho hb
    by_cases hlt : k < pasc x.na x.nb
    · have hck : wr.cell? ⟨g, k, none⟩ = some (.string (ordS x k)) := HOr.out.cell1 hlt
      have hcm : wr.cell? ⟨g, minI (fW x) k, none⟩ = some (.string (ordS x (minI (fW x) k))) := HOr.out.cell1 (by omega)
      have HBr : Hid (Below w.heap.size w wr) := (hbb _).trans (HB.out.mono (by omega))
      have hgr := HOr.out.lt
      have hzr : w.heap.size + 1 ≤ wr.heap.size := by have := HB.out.size; simpa using this
      obtain ⟨m, hm⟩ : ∃ m, m = minI (fW x) k := ⟨_, rfl⟩
      rw [← hm] at hcm hmk ⊢
      have HM := Lib.hid hm
      have i1 : (0 : Int) ≤ (m : Int) := by omega
      have i2 : (m : Int) < (pasc x.na x.nb : Int) := by omega
      have i3 : (k : Int) < (pasc x.na x.nb : Int) := by omega
      clear hm
      go_wp2_with fail
      go_region_held3 (fun w' => w'.cell? ⟨w.heap.size, 0, none⟩ = some (.slice (some ⟨ba, oa, none⟩) x.na ca) ∧ w'.cell? ⟨w.heap.size, 1, none⟩ = some (.slice (some ⟨bb, ob, none⟩) x.nb cb) ∧
          w'.cell? ⟨w.heap.size, 2, none⟩ = some (.int .i64 x.run) ∧ w'.cell? ⟨w.heap.size, 3, none⟩ = some (.int .i64 x.head) ∧
          w'.cell? ⟨g, k, none⟩ = some (.string (ordS x k)) ∧ w'.cell? ⟨g, m, none⟩ = some (.string (ordS x m))) (go_keep)
        (first | (go_at_call_of 50 (Value.string (ordS x m)); go_must (refine Calls.mono (specWaitK_any _ x _ m (by omega) (HV.out.keep (HBr.out.trans (HB4.out.mono (by omega))))) ?_); rintro e w5 ⟨rfl, hb5⟩; go_must (have hx5 := box_keep hx4 hb5 (by omega)); go_must (have hk5 : w5.cell? ⟨g, k, none⟩ = some (.string (ordS x k)) := (hb5.cell (p := ⟨g, k, none⟩) (by show g < _; omega)).trans hk4); go_must (have hm5 : w5.cell? ⟨g, m, none⟩ = some (.string (ordS x m)) := (hb5.cell (p := ⟨g, m, none⟩) (by show g < _; omega)).trans hm4); go_must (have HB5 := Lib.hid (HB4.out.trans (hb5.mono (by omega)))); clear hb5)
               | (go_at_call_of 50 (Value.string (ordS x k)); go_must (refine Calls.mono (specWaitK_any _ x _ k (by omega) (HV.out.keep (by exact HBr.out.drew))) ?_); rintro e w4 ⟨rfl, hb4⟩; go_must (have hx4 := box_keep (w := wr.drew) hbx hb4 (by simp; omega)); go_must (have hk4 : w4.cell? ⟨g, k, none⟩ = some (.string (ordS x k)) := (hb4.cell (p := ⟨g, k, none⟩) (by show g < _; simp; omega)).trans hck); go_must (have hm4 : w4.cell? ⟨g, m, none⟩ = some (.string (ordS x m)) := (hb4.cell (p := ⟨g, m, none⟩) (by show g < _; simp; omega)).trans hcm); go_must (have HB4 : Hid (Below wr.heap.size wr w4) := Below.trans ((Below.refl _ _).drew) hb4); have hz4 : wr.heap.size ≤ w4.heap.size := hb4.size; clear hb4))
      have HBx : Hid (Below (w.heap.size + 1) (w.alloc (.cells #[.slice (some ⟨ba, oa, none⟩) x.na ca, .slice (some ⟨bb, ob, none⟩) x.nb cb, .int .i64 x.run, .int .i64 x.head] 25)) w5) := HB.out.trans (HB5.out.mono hzr)
      have HO5 := Lib.hid (HOr.out.below HB5.out hgr)
      clear hx4 hk4 hm4 hx5 hk5 hm5 hbx
      by_cases hc : fW x k < fW x m
      · have HC : Hid (minI (fW x) (k + 1) = k) := minI_yes (by rw [← HM.out]; exact hc)
        go_wp2_with fail
        go_roundw
        case rel => exact ⟨k + 1, by omega, by go_num, by rw [HC.out], HO5.out, HBx.out⟩
        case measure => simp [intOf]; omega
      · have HC : Hid (minI (fW x) (k + 1) = m) := by rw [HM.out]; exact minI_no (by rw [← HM.out]; exact hc)
        go_wp2_with fail
        go_roundw
        case rel => exact ⟨k + 1, by omega, by go_num, by rw [HC.out], HO5.out, HBx.out⟩
        case measure => simp [intOf]; omega
    · obtain rfl : k = pasc x.na x.nb := by omega
      have hmlt := minI_lt (f := fW x) hP
      have hcm : wr.cell? ⟨g, minI (fW x) (pasc x.na x.nb), none⟩ = some (.string (ordS x (minI (fW x) (pasc x.na x.nb)))) := HOr.out.cell1 (by omega)
      go_wp2_with fail
      go_ret2
      exact ⟨retPair (bestS_yes HS.out).symm HS.out.symm, (hbb _).trans (HB.out.mono (by omega))⟩

set_option maxRecDepth 100000 in
set_option maxHeartbeats 4000000 in
theorem specSoon_any (v : Value) (x : Sg) (w : World) (hv : SgV w v x) (ha : x.na ≤ 1000000000000000) (hb : x.nb ≤ 1000000000000000) :
    Calls Try.prog 43 #[v] w fun e w' => e = .returned (.int .i64 (soonV x)) ∧ Below w.heap.size w w' := by
  have hbb : ∀ a, Below w.heap.size w (w.alloc a) := fun a => (Below.refl _ _).alloc (Nat.le_refl _) _
  have hv0 := hv
  obtain ⟨ba, oa, ca, bb, ob, cb, rfl, hca, hcb⟩ := hv
  clear hca hcb
  have HV := Lib.hid hv0
  clear hv0
  go_enter Try.func43, Try.ntmps43
  go_wp2_with fail
  refine (specValid_any _ x _ (HV.out.keep (hbb _)) (by omega) (by omega)).mono ?_
  rintro e w1 ⟨rfl, hb1⟩
  rw [World.size_alloc] at hb1
  have hbox := box_cells hb1 (by omega)
  have hz1 : w.heap.size + 1 ≤ w1.heap.size := by have := hb1.size; simpa using this
  have HB1 := Lib.hid hb1
  clear hb1
  cases hs : sgOk x
  · have HS := Lib.hid hs
    clear hs
    go_wp2_with fail
    go_ret; exact ⟨retI (soonV_no HS.out).symm, (hbb _).trans (HB1.out.mono (by omega))⟩
  have hle := sgOk_le hs
  have HS := Lib.hid hs
  obtain ⟨hl1, hl2⟩ := hle
  clear hs
  go_wp2_with fail
  refine (l8All_any (x.na + x.nb) x.na x.nb _ rfl (by omega)).mono ?_
  rintro e w2 ⟨g, cg, rfl, hg, ho, hb2⟩
  have HO := Lib.hid ho
  have HB2 := Lib.hid (HB1.out.trans (hb2.mono (by omega)))
  have hP := pasc_pos x.na x.nb
  have hP2 := pasc_le x.na x.nb (by omega)
  have hlg := ho.lt
  clear ho hb2 hbox
  have hbx2 := box_cells HB2.out (by omega)
  have hc0 : w2.cell? ⟨g, 0, none⟩ = some (.string (ordS x 0)) := HO.out.cell1 (by omega)
  have HBr2 : Hid (Below w.heap.size w w2) := (hbb _).trans (HB2.out.mono (by omega))
  have hz2 : w.heap.size + 1 ≤ w2.heap.size := by have := HB2.out.size; simpa using this
  have i2 : 0 < pasc x.na x.nb := by omega
  go_wp2_with fail
  go_region_held3 (fun w' => w'.cell? ⟨w.heap.size, 0, none⟩ = some (.slice (some ⟨ba, oa, none⟩) x.na ca) ∧ w'.cell? ⟨w.heap.size, 1, none⟩ = some (.slice (some ⟨bb, ob, none⟩) x.nb cb) ∧
      w'.cell? ⟨w.heap.size, 2, none⟩ = some (.int .i64 x.run) ∧ w'.cell? ⟨w.heap.size, 3, none⟩ = some (.int .i64 x.head) ∧ w'.cell? ⟨g, 0, none⟩ = some (.string (ordS x 0))) (go_keep)
    ((go_at_call 41; go_must (refine Calls.mono (specEndK_any _ x _ 0 (by omega) (HV.out.keep (by exact HBr2.out.drew))) ?_); rintro e w3 ⟨rfl, hb3⟩; go_must (have hx3 := box_keep (w := w2.drew) hbx2 hb3 (by simp; omega)); go_must (have hk3 : w3.cell? ⟨g, 0, none⟩ = some (.string (ordS x 0)) := (hb3.cell (p := ⟨g, 0, none⟩) (by show g < _; simp; omega)).trans hc0); go_must (have HB3 : Hid (Below w2.heap.size w2 w3) := Below.trans ((Below.refl _ _).drew) hb3); have hz3 : w2.heap.size ≤ w3.heap.size := hb3.size; clear hb3))
  have HBx3 : Hid (Below (w.heap.size + 1) (w.alloc (.cells #[.slice (some ⟨ba, oa, none⟩) x.na ca, .slice (some ⟨bb, ob, none⟩) x.nb cb, .int .i64 x.run, .int .i64 x.head] 25)) w3) := HB2.out.trans (HB3.out.mono hz2)
  have HO3 := Lib.hid (HO.out.below HB3.out hlg)
  clear hx3 hk3 hbx2 hc0
  go_wp2_with fail
  go_loopw [4, 5] (fun sm si wr => ∃ k : Nat, k ≤ pasc x.na x.nb ∧ si = .int .i64 k ∧ sm = .int .i64 (fE x (minI (fE x) k)) ∧ Own wr g cg (pasc x.na x.nb) 1 9 (ordV x.na x.nb) ∧
      Below (w.heap.size + 1) (w.alloc (.cells #[.slice (some ⟨ba, oa, none⟩) x.na ca, .slice (some ⟨bb, ob, none⟩) x.nb cb, .int .i64 x.run, .int .i64 x.head] 25)) wr) (fun _ si _ => pasc x.na x.nb - (intOf si).toNat)
  case atStart => exact ⟨0, Nat.zero_le _, rfl, rfl, HO3.out, HBx3.out⟩
  case round =>
    obtain ⟨k, hk, rfl, rfl, ho, hb⟩ := hrel
    have hbx := box_cells hb (by omega)
    have HOr := Lib.hid ho
    have HB := Lib.hid hb
    clear ho hb
    by_cases hlt : k < pasc x.na x.nb
    · have hck : wr.cell? ⟨g, k, none⟩ = some (.string (ordS x k)) := HOr.out.cell1 hlt
      have HBr : Hid (Below w.heap.size w wr) := (hbb _).trans (HB.out.mono (by omega))
      have hgr := HOr.out.lt
      have hzr : w.heap.size + 1 ≤ wr.heap.size := by have := HB.out.size; simpa using this
      obtain ⟨m, hm⟩ : ∃ m, m = minI (fE x) k := ⟨_, rfl⟩
      rw [← hm]
      have HM := Lib.hid hm
      have i3 : (k : Int) < (pasc x.na x.nb : Int) := by omega
      clear hm
      go_wp2_with fail
      go_region_held3 (fun w' => w'.cell? ⟨w.heap.size, 0, none⟩ = some (.slice (some ⟨ba, oa, none⟩) x.na ca) ∧ w'.cell? ⟨w.heap.size, 1, none⟩ = some (.slice (some ⟨bb, ob, none⟩) x.nb cb) ∧
          w'.cell? ⟨w.heap.size, 2, none⟩ = some (.int .i64 x.run) ∧ w'.cell? ⟨w.heap.size, 3, none⟩ = some (.int .i64 x.head) ∧
          w'.cell? ⟨g, k, none⟩ = some (.string (ordS x k))) (go_keep)
        ((go_at_call 41; go_must (refine Calls.mono (specEndK_any _ x _ k (by omega) (HV.out.keep (by exact HBr.out.drew))) ?_); rintro e w4 ⟨rfl, hb4⟩; go_must (have hx4 := box_keep (w := wr.drew) hbx hb4 (by simp; omega)); go_must (have hk4 : w4.cell? ⟨g, k, none⟩ = some (.string (ordS x k)) := (hb4.cell (p := ⟨g, k, none⟩) (by show g < _; simp; omega)).trans hck); go_must (have HB4 : Hid (Below wr.heap.size wr w4) := Below.trans ((Below.refl _ _).drew) hb4); have hz4 : wr.heap.size ≤ w4.heap.size := hb4.size; clear hb4))
      have HBx : Hid (Below (w.heap.size + 1) (w.alloc (.cells #[.slice (some ⟨ba, oa, none⟩) x.na ca, .slice (some ⟨bb, ob, none⟩) x.nb cb, .int .i64 x.run, .int .i64 x.head] 25)) w4) := HB.out.trans (HB4.out.mono hzr)
      have HO4 := Lib.hid (HOr.out.below HB4.out hgr)
      clear hx4 hk4 hbx
      have HC : Hid (fE x (minI (fE x) (k + 1)) = min (fE x m) (fE x k)) := by
        show _ = _
        by_cases hc : fE x k < fE x m
        · rw [minI_yes (by rw [← HM.out]; exact hc)]; omega
        · rw [minI_no (by rw [← HM.out]; exact hc), ← HM.out]; omega
      go_wp2_with fail
      go_roundw
      case rel => exact ⟨k + 1, by omega, by go_num, by rw [HC.out, ite_min], HO4.out, HBx.out⟩
      case measure => simp [intOf]; omega
    · obtain rfl : k = pasc x.na x.nb := by omega
      go_wp2_with fail
      go_ret
      exact ⟨retI (soonV_yes HS.out).symm, (hbb _).trans (HB.out.mono (by omega))⟩
end Go.Proofs.Ytnhkijfibiffnaa
