/-
  The law FnSingleEnd: plain, and the walk.
-/
import Derived.Test.YtnhkijfibiffnaaDo
import Derived.Test.YtnhkijfibiffnaaLBe
import Derived.Test.YtnhkijfibiffnaaLSm
namespace Go.Proofs.Ytnhkijfibiffnaa
open Go.RowKit

theorem find_U (c : Nat → Int) (i : Nat) : ∀ n, i < cntU c n → ∃ k, k < n ∧ c k = 85 ∧ cntU c k = i
  | 0, h => by simp [cntU] at h
  | n + 1, h => by
    by_cases hU : c n = 85
    · rw [cntU_U hU] at h
      by_cases e : i = cntU c n
      · exact ⟨n, by omega, hU, e.symm⟩
      · obtain ⟨k, h1, h2⟩ := find_U c i n (by omega)
        exact ⟨k, by omega, h2⟩
    · rw [cntU_D hU] at h
      obtain ⟨k, h1, h2⟩ := find_U c i n h
      exact ⟨k, by omega, h2⟩
theorem find_D (c : Nat → Int) (i : Nat) : ∀ n, i < n - cntU c n → ∃ k, k < n ∧ ¬ c k = 85 ∧ k - cntU c k = i
  | 0, h => by omega
  | n + 1, h => by
    have hle := cntU_le c n
    by_cases hU : c n = 85
    · rw [cntU_U hU] at h
      obtain ⟨k, h1, h2⟩ := find_D c i n (by omega)
      exact ⟨k, by omega, h2⟩
    · rw [cntU_D hU] at h
      by_cases e : i = n - cntU c n
      · exact ⟨n, by omega, hU, e.symm⟩
      · obtain ⟨k, h1, h2⟩ := find_D c i n (by omega)
        exact ⟨k, by omega, h2⟩
theorem st_mono {x : Sg} {c : Nat → Int} (hx : SgB x) (j : Nat) : ∀ k, j ≤ k → stT x c j ≤ stT x c k := by
  intro k hk
  induction k with
  | zero => obtain rfl : j = 0 := by omega
            exact Int.le_refl _
  | succ k ih =>
    by_cases e : j = k + 1
    · subst e; exact Int.le_refl _
    · have h1 := ih (by omega)
      have h2 := gapT_bd (c := c) hx k
      simp only [stT]
      omega
theorem end_A {x : Sg} {s : ByteArray} (h : stOk x s = true) {i : Nat} (hi : i < x.na) : x.A i + x.run ≤ endV x s := by
  obtain ⟨hx, ho⟩ := stOk_parts h
  obtain ⟨_, hc, hl⟩ := ordOk_true.1 ho
  obtain ⟨k, hk, hU, hki⟩ := find_U (bt s) i s.size (by rw [hc]; exact hi)
  have h0 : ¬ s.size = 0 := by omega
  rw [endV_pos h h0]
  have h1 := rd_le_st x (bt s) k
  have h2 := st_mono (c := bt s) hx k (s.size - 1) (by omega)
  rw [rdT_U hU, hki] at h1
  omega
theorem end_B {x : Sg} {s : ByteArray} (h : stOk x s = true) {i : Nat} (hi : i < x.nb) : x.B i + x.run ≤ endV x s := by
  obtain ⟨hx, ho⟩ := stOk_parts h
  obtain ⟨_, hc, hl⟩ := ordOk_true.1 ho
  obtain ⟨k, hk, hU, hki⟩ := find_D (bt s) i s.size (by rw [hc]; omega)
  have h0 : ¬ s.size = 0 := by omega
  rw [endV_pos h h0]
  have h1 := rd_le_st x (bt s) k
  have h2 := st_mono (c := bt s) hx k (s.size - 1) (by omega)
  rw [rdT_D hU, hki] at h1
  omega
/-- the same line with a longer run -/
def lonSg (x : Sg) : Sg := ⟨x.A, x.na, x.B, x.nb, x.run + 1, x.head⟩
theorem lon_rd (x : Sg) (c : Nat → Int) (k : Nat) : rdT (lonSg x) c k = rdT x c k := rfl
theorem lon_st {x : Sg} (c : Nat → Int) : ∀ k, stT x c k ≤ stT (lonSg x) c k
  | 0 => Int.le_refl _
  | k + 1 => by
    have ih := lon_st (x := x) c k
    have hg : gapT x c k ≤ gapT (lonSg x) c k := by
      unfold gapT
      split
      · exact Int.le_refl _
      · show x.run ≤ x.run + 1; omega
    simp only [stT]
    rw [lon_rd]
    omega
theorem lon_ok {x : Sg} (h : sgOk x = true) : sgOk (lonSg x) = decide (x.run < 100) := by
  have hx := sgOk_bd h
  simp only [sgOk, Bool.and_eq_true] at h
  show (rdy x.na x.A && (rdy x.nb x.B && (inB (x.run + 1) 1 100 && inB x.head 1 (x.run + 1)))) = _
  rw [h.1, h.2.1, Bool.true_and, Bool.true_and, inB_true.2 ⟨hx.head.1, by have := hx.head.2; omega⟩, Bool.and_true]
  have := hx.run
  unfold inB
  rw [Bool.eq_iff_iff]
  simp
  omega
theorem lon_ord (x : Sg) (s : ByteArray) : ordOk (lonSg x) s = ordOk x s := rfl
theorem lon_end {x : Sg} {s : ByteArray} (h : stOk x s = true) (h0 : ¬ s.size = 0) : (x.run = 100 ∧ endV (lonSg x) s = -1) ∨ endV x s < endV (lonSg x) s := by
  have hs : sgOk x = true := by simp only [stOk, Bool.and_eq_true] at h; exact h.1
  have ho : ordOk x s = true := by simp only [stOk, Bool.and_eq_true] at h; exact h.2
  have hx := sgOk_bd hs
  by_cases h100 : x.run < 100
  · right
    have h2 : stOk (lonSg x) s = true := stOk_yes (by rw [lon_ok hs]; simpa using h100) (by rw [lon_ord]; exact ho)
    rw [endV_pos h h0, endV_pos h2 h0]
    have := lon_st (x := x) (bt s) (s.size - 1)
    show _ < _ + (x.run + 1)
    omega
  · left
    have := hx.run
    refine ⟨by omega, endV_no (stOk_no1 ?_)⟩
    rw [lon_ok hs]
    simpa using h100
theorem endV_neg {x : Sg} {s : ByteArray} (h : ¬ endV x s < 0) : stOk x s = true := by
  cases h1 : stOk x s
  · rw [endV_no h1] at h; omega
  · rfl

set_option maxRecDepth 100000 in
set_option maxHeartbeats 4000000 in
theorem lawEnd_any3 (ao : Option Addr) (n c : Nat) (w : World) (hB : BSl w ao n) (hnc : n ≤ c) (hn : n ≤ 9223372036854775807) :
    Calls Try.prog 9 #[.slice ao n c] w fun e w' => e = .returned (.bool true) ∧ Below w.heap.size w w' := by
  have HBS := Lib.hid hB
  clear hB
  by_cases hlong : 1048576 < n
  · go_enter Try.func9, Try.ntmps9
    go_wp2_with fail
    go_ret
    exact ⟨rfl, Below.refl _ _⟩
  go_enter Try.func9, Try.ntmps9
  go_wp2_with fail
  refine (drawEnd_any ao n c _ hnc hn HBS.out).mono ?_
  rintro e w1 ⟨v, x, s, rfl, hF, hL, hs, hb1⟩
  have HF := Lib.hid hF
  have HBw := Lib.hid hb1
  have hz1 := hb1.size
  have hna := hL.na
  have hnb := hL.nb
  have HLL := Lib.hid hL
  obtain ⟨ga, ca, gb, cb, rfl, _⟩ := hF
  clear hb1 hL
  have HB0 : Hid (Below (w1.heap.size + 1) (w1.alloc (.cells #[.slice (some ⟨ga, 0, none⟩) x.na ca, .slice (some ⟨gb, 0, none⟩) x.nb cb, .int .i64 x.run, .int .i64 x.head] 25)) (w1.alloc (.cells #[.slice (some ⟨ga, 0, none⟩) x.na ca, .slice (some ⟨gb, 0, none⟩) x.nb cb, .int .i64 x.run, .int .i64 x.head] 25))) := Below.refl _ _
  have hbx := box_cells HB0.out (by omega)
  go_wp2_with fail
  refine (implEnd_any _ x _ s (by omega) (sg_at HF.out HB0.out) (by omega) (by omega)).mono ?_
  rintro e w2 ⟨rfl, hb⟩
  have HB2 := Lib.hid (HB0.out.trans (hb.mono (by have := HB0.out.size; simp at this ⊢ <;> omega)))
  clear hb hbx
  have hbx := box_cells HB2.out (by omega)
  go_wp2_with fail
  refine (specEnd_any _ x _ s (by omega) (sg_at HF.out HB2.out) (by omega) (by omega)).mono ?_
  rintro e w3 ⟨rfl, hb⟩
  have HB3 := Lib.hid (HB2.out.trans (hb.mono (by have := HB2.out.size; simp at this ⊢ <;> omega)))
  clear hb hbx
  have hbx := box_cells HB3.out (by omega)
  have gne : ∀ a : Int, (a != a) = false := fun a => by simp
  have geq : ∀ a : Int, (a == a) = true := fun a => by simp
  by_cases hneg : endV x s < 0
  · go_wp2_with fail
    go_ret
    exact ⟨rfl, law_end HBw.out HB3.out⟩
  have hok := endV_neg hneg
  have HK := Lib.hid hok
  have hx := (stOk_parts hok).1
  obtain ⟨hrun1, hrun2⟩ := hx.run
  have hsz13 : w1.heap.size < w3.heap.size := by have := HB3.out.size; simp at this ⊢; omega
  have HX := Lib.hid hx
  clear hok hx
  by_cases h0 : s.size = 0
  · have HZ : Hid (endV x s = 0) := endV_zero HK.out h0
    have q0 : ((s.size : Int) == 0) = true := by simp [h0]
    have q1 : (endV x s == 0) = true := by simp [HZ.out]
    clear h0
    go_wp2_with fail
    go_ret
    exact ⟨rfl, law_end HBw.out HB3.out⟩
  have q0 : ((s.size : Int) == 0) = false := by simp [h0]
  have HLN := Lib.hid (lon_end HK.out h0)
  clear h0
  have HFr : Hid (SgF w.heap.size w3 (.agg #[.slice (some ⟨ga, 0, none⟩) x.na ca, .slice (some ⟨gb, 0, none⟩) x.nb cb, .int .i64 x.run, .int .i64 x.head]) x) := HF.out.keep ((below_all _ _).trans (HB3.out.mono (by omega)))
  go_wp2_with fail
  go_loopw [8] (fun si wr => ∃ j : Nat, j ≤ x.na ∧ si = .int .i64 j ∧ Dr w3 wr) (fun si _ => x.na - (intOf si).toNat)
  case atStart => exact ⟨0, Nat.zero_le _, rfl, Dr.refl _⟩
  case round =>
    obtain ⟨j, hj, rfl, q, rfl⟩ := hrel
    by_cases hlt : j < x.na
    · have hcj := HFr.out.owns.1.cell1 hlt
      have hbd := HX.out.A j hlt
      have hea := end_A HK.out hlt
      have hw : IntKind.i64.wrap (x.A j + x.run) = x.A j + x.run := IntWalk.i64_in _ (by omega)
      have hd : decide (endV x s < x.A j + x.run) = false := decide_eq_false (by omega)
      go_wp2_with fail
      go_quiet (fail)
      clear hw
      go_wp2_with fail
      go_roundw
      case rel => exact ⟨j + 1, by omega, by go_num, (by repeat (first | exact Dr.refl _ | exact ⟨_, rfl⟩ | refine Dr.drewN ?_ _))⟩
      case measure => simp [intOf]; omega
    · obtain rfl : j = x.na := by omega
      clear hlt
      go_wp2_with fail
      go_loopw [9] (fun si wr => ∃ j : Nat, j ≤ x.nb ∧ si = .int .i64 j ∧ Dr w3 wr) (fun si _ => x.nb - (intOf si).toNat)
      case atStart => exact ⟨0, Nat.zero_le _, rfl, (by repeat (first | exact Dr.refl _ | exact ⟨_, rfl⟩ | refine Dr.drewN ?_ _))⟩
      case round =>
        obtain ⟨j, hj, rfl, q, rfl⟩ := hrel
        by_cases hlt : j < x.nb
        · have hcj := HFr.out.owns.2.cell1 hlt
          have hbd := HX.out.B j hlt
          have hea := end_B HK.out hlt
          have hw : IntKind.i64.wrap (x.B j + x.run) = x.B j + x.run := IntWalk.i64_in _ (by omega)
          have hd : decide (endV x s < x.B j + x.run) = false := decide_eq_false (by omega)
          go_wp2_with fail
          go_quiet (fail)
          clear hw
          go_wp2_with fail
          go_roundw
          case rel => exact ⟨j + 1, by omega, by go_num, (by repeat (first | exact Dr.refl _ | exact ⟨_, rfl⟩ | refine Dr.drewN ?_ _))⟩
          case measure => simp [intOf]; omega
        · obtain rfl : j = x.nb := by omega
          clear hlt
          have HO2 := Lib.hid HFr.out.owns
          have HD4 : Hid (Dr w3 (w3.drewN q)) := (by repeat (first | exact Dr.refl _ | exact ⟨_, rfl⟩ | refine Dr.drewN ?_ _))
          have HOA : Hid (Own (w3.drewN q) ga ca x.na 1 3 (fun i => .int .i64 (x.A i))) := HO2.out.1.drewN q
          have HOB : Hid (Own (w3.drewN q) gb cb x.nb 1 3 (fun i => .int .i64 (x.B i))) := HO2.out.2.drewN q
          have HB4 := Lib.hid (HB3.out.trans (below_dr HD4.out _))
          clear hbx HD4
          generalize w3.drewN q = w4 at *
          have hbx := box_cells HB4.out (by omega)
          have hsz4 : w1.heap.size < w4.heap.size := by have := HB4.out.size; simp at this ⊢; omega
          go_wp2_with fail
          have HVL : Hid (∀ o, SgV (w4.alloc o) (.agg #[.slice (some ⟨ga, 0, none⟩) x.na ca, .slice (some ⟨gb, 0, none⟩) x.nb cb, .int .i64 (x.run + 1), .int .i64 x.head]) (lonSg x)) := fun o => ⟨ga, 0, ca, gb, 0, cb, rfl, (IC.of_own HOA.out).keep (below_all _ _), (IC.of_own HOB.out).keep (below_all _ _)⟩
          refine (implEnd_any _ (lonSg x) _ s (by omega) (HVL.out _) (by show x.na ≤ _; omega) (by show x.nb ≤ _; omega)).mono ?_
          rintro e w5 ⟨rfl, hb5⟩
          rw [World.size_alloc] at hb5
          have hx5 := box_keep (w := w4.alloc _) (fun o => rfl) hb5 (b := w1.heap.size) (by omega)
          rcases HLN.out with ⟨e100, e1⟩ | e1
          · have q2 : (endV (lonSg x) s == -1) = true := by simp [e1]
            have q3 : (x.run == 100) = true := by simp [e100]
            go_wp2_with fail
            go_ret
            exact ⟨by simp, law_end HBw.out (HB4.out.trans (((below_all w4 _).trans (hb5.mono (by omega))).mono (by omega)))⟩
          · have q2 : decide (endV x s < endV (lonSg x) s) = true := decide_eq_true e1
            go_wp2_with fail
            go_ret
            exact ⟨by simp, law_end HBw.out (HB4.out.trans (((below_all w4 _).trans (hb5.mono (by omega))).mono (by omega)))⟩
end Go.Proofs.Ytnhkijfibiffnaa
