/-
  Walks: SingleRank, and the law on it.
-/
import Derived.Test.YtnhkijfibiffnaaH
namespace Go.Proofs.Ytnhkijfibiffnaa
open Go.RowKit

/-- how many orders go ahead with D first, of a and b trains still to come -/
def fstN (a b : Nat) : Nat := if 0 < b then pasc a (b - 1) else 0
theorem fstN_zero (a : Nat) : fstN a 0 = 0 := rfl
theorem fstN_succ (a b : Nat) : fstN a (b + 1) = pasc a b := rfl
/-- the rank gathered ahead of place k -/
def rkT (na nb : Nat) (c : Nat → Int) : Nat → Nat
  | 0 => 0
  | k + 1 => rkT na nb c k + (if c k = 68 then 0 else fstN (na - cntU c k) (nb - (k - cntU c k)))
theorem rkT_D {na nb : Nat} {c : Nat → Int} {k : Nat} (h : c k = 68) : rkT na nb c (k + 1) = rkT na nb c k := by simp [rkT, h]
theorem rkT_U {na nb : Nat} {c : Nat → Int} {k : Nat} (h : ¬ c k = 68) : rkT na nb c (k + 1) = rkT na nb c k + fstN (na - cntU c k) (nb - (k - cntU c k)) := by simp [rkT, h]
theorem fstN_le (a b : Nat) (h : a + b ≤ 12) : fstN a b ≤ 4096 := by
  unfold fstN
  split
  · exact pasc_le a (b - 1) (by omega)
  · omega
theorem rkT_le (na nb : Nat) (c : Nat → Int) (h : na + nb ≤ 12) : ∀ k, rkT na nb c k ≤ 4096 * k
  | 0 => by simp [rkT]
  | k + 1 => by
    have := rkT_le na nb c h k
    have := fstN_le (na - cntU c k) (nb - (k - cntU c k)) (by omega)
    simp only [rkT]
    split <;> omega

/-- what SingleRank answers -/
def rankV (x : Sg) (s : ByteArray) : Int := if stOk x s = true then (rkT x.na x.nb (bt s) s.size : Int) else -1
theorem rankV_no {x : Sg} {s : ByteArray} (h : stOk x s = false) : rankV x s = -1 := if_neg (by rw [h]; simp)
theorem rankV_yes {x : Sg} {s : ByteArray} (h : stOk x s = true) : rankV x s = (rkT x.na x.nb (bt s) s.size : Int) := if_pos h

set_option maxHeartbeats 1000000 in
theorem specRank_any (v : Value) (x : Sg) (w : World) (s : ByteArray) (hs : s.size ≤ 1048576) (hv : SgV w v x) (ha : x.na ≤ 1000000000000000) (hb : x.nb ≤ 1000000000000000) :
    Calls Try.prog 45 #[v, .string s] w fun e w' => e = .returned (.int .i64 (rankV x s)) ∧ Below w.heap.size w w' := by
  have hbb : ∀ a, Below w.heap.size w (w.alloc a) := fun a => (Below.refl _ _).alloc (Nat.le_refl _) _
  have hv0 := hv
  obtain ⟨ba, oa, ca, bb, ob, cb, rfl, hca, hcb⟩ := hv
  clear hca hcb
  have HV := Lib.hid hv0
  clear hv0
  go_enter Try.func45, Try.ntmps45
  go_wp2_with fail
  refine (specValid_any _ x _ (HV.out.keep (hbb _)) (by omega) (by omega)).mono ?_
  rintro e w1 ⟨rfl, hb1⟩
  rw [World.size_alloc] at hb1
  have hbox := box_cells hb1 (by omega)
  have hz1 : w.heap.size + 1 ≤ w1.heap.size := by have := hb1.size; simpa using this
  have HB1 := Lib.hid hb1
  clear hb1
  cases h1 : sgOk x
  · have H1 := Lib.hid h1
    clear h1
    go_wp2_with fail
    go_ret
    exact ⟨retI (rankV_no (stOk_no1 H1.out)).symm, (hbb _).trans (HB1.out.mono (by omega))⟩
  have hx := sgOk_bd h1
  have H1 := Lib.hid h1
  clear h1
  go_wp2_with fail
  refine (l8Order_any _ s x _ (HV.out.keep ((hbb _).trans (HB1.out.mono (by omega)))) hs hx.na hx.nb).mono ?_
  rintro e w2 ⟨rfl, hb2⟩
  have hz2 := hb2.size
  have HB2 := Lib.hid (HB1.out.trans (hb2.mono (by omega)))
  have hbox2 := box_cells HB2.out (by omega)
  clear hb2 hbox
  cases h2 : ordOk x s
  · have H2 := Lib.hid h2
    clear h2
    go_wp2_with fail
    go_ret
    exact ⟨retI (rankV_no (stOk_no2 H2.out)).symm, (hbb _).trans (HB2.out.mono (by omega))⟩
  have hlen := ord_len hx h2
  have HO := Lib.hid h2
  clear h2
  go_wp2_with fail
  go_loopw [5, 6, 7, 8] (fun sa sb r i wr => ∃ k a b : Nat, k ≤ s.size ∧ i = .int .i64 k ∧ sa = .int .i64 a ∧ sb = .int .i64 b ∧ r = .int .i64 (rkT x.na x.nb (bt s) k) ∧ (a + cntU (bt s) k = x.na ∧ b + (k - cntU (bt s) k) = x.nb) ∧ Below w.heap.size w wr) (fun sa sb r i _ => s.size - (intOf i).toNat)
  case atStart => exact ⟨0, x.na, x.nb, Nat.zero_le _, rfl, rfl, rfl, rfl, ⟨rfl, rfl⟩, (hbb _).trans (HB2.out.mono (by omega))⟩
  case round =>
    obtain ⟨k, a, b, hk, rfl, rfl, rfl, rfl, hab, hb⟩ := hrel
    have HAB := Lib.hid hab
    have HB := Lib.hid hb
    have hal : a ≤ 6 := by have := hx.na; omega
    have hbl : b ≤ 6 := by have := hx.nb; omega
    have hrk := rkT_le x.na x.nb (bt s) (by have := hx.na; have := hx.nb; omega) k
    clear hab hb
    by_cases hlt : k < s.size
    · have hpl := ord_places HO.out k hlt
      have hdir := (ordOk_true.1 HO.out).1 k hlt
      have hbt := bt_at hlt
      by_cases hD : bt s k = 68
      · have hU : ¬ bt s k = 85 := by omega
        have hb1 : 0 < b := by have := hpl.2 hU; have := HAB.out; omega
        obtain ⟨b, rfl⟩ : ∃ b', b = b' + 1 := ⟨b - 1, by omega⟩
        have HC := Lib.hid (cntU_D hU)
        have HK := Lib.hid (rkT_D (na := x.na) (nb := x.nb) hD)
        have gD : (bt s k == 68) = true := by simp [hD]
        have hcu := cntU_le (bt s) k
        clear hD hU hpl hdir
        go_wp2_with fail
        go_roundw
        case rel => exact ⟨k + 1, a, b, by omega, by go_num, rfl, by go_num, by rw [HK.out], by rw [HC.out]; have := HAB.out; omega, HB.out⟩
        case measure => simp [intOf]; omega
      · have hU : bt s k = 85 := by omega
        have ha1 : 0 < a := by have := hpl.1 hU; have := HAB.out; omega
        obtain ⟨a, rfl⟩ : ∃ a', a = a' + 1 := ⟨a - 1, by omega⟩
        have HC := Lib.hid (cntU_U hU)
        have HK := Lib.hid (rkT_U (na := x.na) (nb := x.nb) hD)
        have gD : (bt s k == 68) = false := by simp [hD]
        have hcu := cntU_le (bt s) k
        have e1 : x.na - cntU (bt s) k = a + 1 := by have := HAB.out; omega
        have e2 : x.nb - (k - cntU (bt s) k) = b := by have := HAB.out; omega
        rw [e1, e2] at HK
        clear hD hU hpl hdir e1 e2
        by_cases hb0 : 0 < b
        · obtain ⟨b, rfl⟩ : ∃ b', b = b' + 1 := ⟨b - 1, by omega⟩
          have hp := pasc_le (a + 1) b (by omega)
          go_wp2_with fail
          refine (l8Many_any 12 (a + 1) b _ (by omega) (by omega)).mono ?_
          rintro e w' ⟨rfl, rfl⟩
          go_wp2_with fail
          go_roundw
          case rel => exact ⟨k + 1, a, b + 1, by omega, by go_num, by go_num, rfl, by rw [HK.out, fstN_succ]; go_num, by rw [HC.out]; have := HAB.out; omega, HB.out⟩
          case measure => simp [intOf]; omega
        · obtain rfl : b = 0 := by omega
          go_wp2_with fail
          go_roundw
          case rel => exact ⟨k + 1, a, 0, by omega, by go_num, by go_num, rfl, by rw [HK.out, fstN_zero]; go_num, by rw [HC.out]; have := HAB.out; omega, HB.out⟩
          case measure => simp [intOf]; omega
    · obtain rfl : k = s.size := by omega
      go_wp2_with fail
      go_ret
      exact ⟨retI (rankV_yes (stOk_yes H1.out HO.out)).symm, HB.out⟩

set_option maxHeartbeats 1000000 in
theorem implRank_any (v : Value) (x : Sg) (w : World) (s : ByteArray) (hs : s.size ≤ 1048576) (hv : SgV w v x) (ha : x.na ≤ 1000000000000000) (hb : x.nb ≤ 1000000000000000) :
    Calls Try.prog 22 #[v, .string s] w fun e w' => e = .returned (.int .i64 (rankV x s)) ∧ Below w.heap.size w w' := by
  have hbb : ∀ a, Below w.heap.size w (w.alloc a) := fun a => (Below.refl _ _).alloc (Nat.le_refl _) _
  have hv0 := hv
  obtain ⟨ba, oa, ca, bb, ob, cb, rfl, hca, hcb⟩ := hv
  clear hca hcb
  have HV := Lib.hid hv0
  clear hv0
  go_enter Try.func22, Try.ntmps22
  go_wp2_with fail
  refine (implValid_any _ x _ (HV.out.keep (hbb _)) (by omega) (by omega)).mono ?_
  rintro e w1 ⟨rfl, hb1⟩
  rw [World.size_alloc] at hb1
  have hbox := box_cells hb1 (by omega)
  have hz1 : w.heap.size + 1 ≤ w1.heap.size := by have := hb1.size; simpa using this
  have HB1 := Lib.hid hb1
  clear hb1
  cases h1 : sgOk x
  · have H1 := Lib.hid h1
    clear h1
    go_wp2_with fail
    go_ret
    exact ⟨retI (rankV_no (stOk_no1 H1.out)).symm, (hbb _).trans (HB1.out.mono (by omega))⟩
  have hx := sgOk_bd h1
  have H1 := Lib.hid h1
  clear h1
  go_wp2_with fail
  refine (isOrder_any _ s x _ (HV.out.keep ((hbb _).trans (HB1.out.mono (by omega)))) hs hx.na hx.nb).mono ?_
  rintro e w2 ⟨rfl, hb2⟩
  have hz2 := hb2.size
  have HB2 := Lib.hid (HB1.out.trans (hb2.mono (by omega)))
  have hbox2 := box_cells HB2.out (by omega)
  clear hb2 hbox
  cases h2 : ordOk x s
  · have H2 := Lib.hid h2
    clear h2
    go_wp2_with fail
    go_ret
    exact ⟨retI (rankV_no (stOk_no2 H2.out)).symm, (hbb _).trans (HB2.out.mono (by omega))⟩
  have hlen := ord_len hx h2
  have HO := Lib.hid h2
  clear h2
  go_wp2_with fail
  go_quiet (fail)
  go_wp2_with fail
  go_loopw [5, 6, 7, 26] (fun r sa sb i wr => ∃ k a b : Nat, k ≤ s.size ∧ i = .int .i64 k ∧ sa = .int .i64 a ∧ sb = .int .i64 b ∧ r = .int .i64 (rkT x.na x.nb (bt s) k) ∧ (a + cntU (bt s) k = x.na ∧ b + (k - cntU (bt s) k) = x.nb) ∧ Below w.heap.size w wr) (fun r sa sb i _ => s.size - (intOf i).toNat)
  case atStart => exact ⟨0, x.na, x.nb, Nat.zero_le _, rfl, rfl, rfl, rfl, ⟨rfl, rfl⟩, below_drewN ((hbb _).trans (HB2.out.mono (by omega))) _⟩
  case round =>
    obtain ⟨k, a, b, hk, rfl, rfl, rfl, rfl, hab, hb⟩ := hrel
    have HAB := Lib.hid hab
    have HB := Lib.hid hb
    have hal : a ≤ 6 := by have := hx.na; omega
    have hbl : b ≤ 6 := by have := hx.nb; omega
    have hrk := rkT_le x.na x.nb (bt s) (by have := hx.na; have := hx.nb; omega) k
    clear hab hb
    by_cases hlt : k < s.size
    · have hpl := ord_places HO.out k hlt
      have hdir := (ordOk_true.1 HO.out).1 k hlt
      have hbt := bt_at hlt
      by_cases hD : bt s k = 68
      · have hU : ¬ bt s k = 85 := by omega
        have hb1 : 0 < b := by have := hpl.2 hU; have := HAB.out; omega
        obtain ⟨b, rfl⟩ : ∃ b', b = b' + 1 := ⟨b - 1, by omega⟩
        have HC := Lib.hid (cntU_D hU)
        have HK := Lib.hid (rkT_D (na := x.na) (nb := x.nb) hD)
        have gD : (bt s k == 68) = true := by simp [hD]
        have hcu := cntU_le (bt s) k
        clear hD hU hpl hdir
        go_wp2_with fail
        go_roundw
        case rel => exact ⟨k + 1, a, b, by omega, by go_num, rfl, by go_num, by rw [HK.out], by rw [HC.out]; have := HAB.out; omega, HB.out⟩
        case measure => simp [intOf]; omega
      · have hU : bt s k = 85 := by omega
        have ha1 : 0 < a := by have := hpl.1 hU; have := HAB.out; omega
        obtain ⟨a, rfl⟩ : ∃ a', a = a' + 1 := ⟨a - 1, by omega⟩
        have HC := Lib.hid (cntU_U hU)
        have HK := Lib.hid (rkT_U (na := x.na) (nb := x.nb) hD)
        have gD : (bt s k == 68) = false := by simp [hD]
        have hcu := cntU_le (bt s) k
        have e1 : x.na - cntU (bt s) k = a + 1 := by have := HAB.out; omega
        have e2 : x.nb - (k - cntU (bt s) k) = b := by have := HAB.out; omega
        rw [e1, e2] at HK
        clear hD hU hpl hdir e1 e2
        by_cases hb0 : 0 < b
        · obtain ⟨b, rfl⟩ : ∃ b', b = b' + 1 := ⟨b - 1, by omega⟩
          have hp := pasc_le (a + 1) b (by omega)
          go_wp2_with fail
          refine (ways_any (a + 1) b _ (by omega) (by omega)).mono ?_
          rintro e w' ⟨rfl, rfl⟩
          go_wp2_with fail
          go_roundw
          case rel => exact ⟨k + 1, a, b + 1, by omega, by go_num, by go_num, rfl, by rw [HK.out, fstN_succ]; go_num, by rw [HC.out]; have := HAB.out; omega, HB.out⟩
          case measure => simp [intOf]; omega
        · obtain rfl : b = 0 := by omega
          go_wp2_with fail
          go_roundw
          case rel => exact ⟨k + 1, a, 0, by omega, by go_num, by go_num, rfl, by rw [HK.out, fstN_zero]; go_num, by rw [HC.out]; have := HAB.out; omega, HB.out⟩
          case measure => simp [intOf]; omega
    · obtain rfl : k = s.size := by omega
      go_wp2_with fail
      go_ret
      exact ⟨retI (rankV_yes (stOk_yes H1.out HO.out)).symm, HB.out⟩

end Go.Proofs.Ytnhkijfibiffnaa
