/-
  Walks on paths: the reference's valid, both stands.
-/
import Derived.Test.YtlflkkigagdilaaPa
import Derived.Test.YtlflkkigagdilaaRx
import Derived.Test.YtlflkkigagdilaaQt
namespace Go.Proofs.Ytlflkkigagdilaa
open Go.RowKit

/-- a path as a value -/
def PtV (w : World) (v : Value) (p : Pt) : Prop :=
  ∃ bi oi ci bo oo co, v = .agg #[.slice (some ⟨bi, oi, none⟩) p.ni ci, .slice (some ⟨bo, oo, none⟩) p.no co] ∧ IC w bi oi p.ni p.I ∧ IC w bo oo p.no p.O
theorem PtV.keep {w w' : World} {v : Value} {p : Pt} (h : PtV w v p) (hb : Below w.heap.size w w') : PtV w' v p := by
  obtain ⟨bi, oi, ci, bo, oo, co, e, h1, h2⟩ := h
  exact ⟨bi, oi, ci, bo, oo, co, e, h1.keep hb, h2.keep hb⟩
theorem PtV.box {w : World} {p : Pt} {bi oi ci bo oo co : Nat} {t : TypeId} (h1 : IC w bi oi p.ni p.I) (h2 : IC w bo oo p.no p.O) :
    PtB (w.alloc (.cells #[.slice (some ⟨bi, oi, none⟩) p.ni ci, .slice (some ⟨bo, oo, none⟩) p.no co] t)) w.heap.size p bi oi ci bo oo co :=
  ⟨box_new w _ t 0, box_new w _ t 1, h1.keep (below_all _ _), h2.keep (below_all _ _)⟩
theorem vk_in {p : Pt} {k : Nat} (h : vkB p k = true) : inB (p.I k) (prO p k) 2000 = true ∧ inB (p.O k) (p.I k + 1) 2000 = true := by
  have := vkB_true.1 h
  exact ⟨inB_true.2 (by omega), inB_true.2 (by omega)⟩
theorem vk_of {p : Pt} {k : Nat} (h1 : inB (p.I k) (prO p k) 2000 = true) (h2 : inB (p.O k) (p.I k + 1) 2000 = true) : vkB p k = true := by
  have h1 := inB_true.1 h1
  have h2 := inB_true.1 h2
  exact vkB_true.2 (by omega)

theorem l6In_at {n lo hi : Int} {b : Bool} (h : inB n lo hi = b) (w : World) : Calls Try.prog 33 #[.int .i64 n, .int .i64 lo, .int .i64 hi] w fun e w' => e = .returned (.bool b) ∧ w = w' :=
  (l6In_any n lo hi w).mono fun e w' ⟨h1, h2⟩ => ⟨by rw [h1, h], h2⟩
set_option maxHeartbeats 2000000 in
theorem specPValid_any (v : Value) (p : Pt) (n : Int) (w : World) (hp : PtV w v p) (hni : p.ni ≤ 1000000) (hno : p.no ≤ 1000000) (hn : -9223372036854775808 ≤ n ∧ n ≤ 9223372036854775807) :
    Calls Try.prog 39 #[.int .i64 n, v] w fun e w' => e = .returned (.bool (ptOk p n)) ∧ Below w.heap.size w w' := by
  obtain ⟨bi, oi, ci, bo, oo, co, rfl, hI, hO⟩ := hp
  have HP := Lib.hid (PtV.box (ci := ci) (co := co) (t := 37) hI hO)
  have HBB : Hid (∀ o, Below w.heap.size w (w.alloc o)) := fun o => below_all _ _
  clear hI hO
  cases hin : inB n 1 5
  · have HI := Lib.hid hin
    clear hin
    go_enter Try.func39, Try.ntmps39
    go_wp2_with fail
    refine (l6In_any _ _ _ _).mono ?_
    rintro e w' ⟨rfl, rfl⟩
    rw [HI.out]
    go_wp2_with fail
    go_ret
    exact ⟨retB (ptOk_n HI.out).symm, HBB.out _⟩
  have hin2 := inB_true.1 hin
  have HI := Lib.hid hin
  obtain ⟨n, rfl⟩ := Int.eq_ofNat_of_zero_le (show 0 ≤ n by omega)
  clear hin hn
  by_cases h1 : ¬ p.ni = n
  · have g1 : ((p.ni : Int) != (n : Int)) = true := by simp; omega
    have HR : Hid (ptOk p n = false) := ptOk_i (by omega)
    clear h1
    go_enter Try.func39, Try.ntmps39
    go_wp2_with fail
    refine (l6In_any _ _ _ _).mono ?_
    rintro e w' ⟨rfl, rfl⟩
    rw [HI.out]
    go_wp2_with fail
    go_ret
    exact ⟨retB HR.out.symm, HBB.out _⟩
  replace h1 := Decidable.not_not.1 h1
  by_cases h2 : ¬ p.no = n
  · have g1 : ((p.ni : Int) != (n : Int)) = false := by simp; omega
    have g2 : ((p.no : Int) != (n : Int)) = true := by simp; omega
    have HR : Hid (ptOk p n = false) := ptOk_o (by omega)
    clear h1 h2
    go_enter Try.func39, Try.ntmps39
    go_wp2_with fail
    refine (l6In_any _ _ _ _).mono ?_
    rintro e w' ⟨rfl, rfl⟩
    rw [HI.out]
    go_wp2_with fail
    go_ret
    exact ⟨retB HR.out.symm, HBB.out _⟩
  replace h2 := Decidable.not_not.1 h2
  obtain ⟨I, ni, O, no⟩ := p
  simp only at h1 h2 hni hno
  subst h1
  obtain rfl : ni = no := h2.symm
  have gn : ((ni : Int) != (ni : Int)) = false := by simp
  go_enter Try.func39, Try.ntmps39
  go_wp2_with fail
  refine (l6In_any _ _ _ _).mono ?_
  rintro e w' ⟨rfl, rfl⟩
  rw [HI.out]
  go_wp2_with fail
  go_loopw [5, 6] (fun l i wr => ∃ k : Nat, k ≤ ni ∧ i = .int .i64 k ∧ l = .int .i64 (prO ⟨I, ni, O, ni⟩ k) ∧ Hid (∀ j, j < k → vkB ⟨I, ni, O, ni⟩ j = true) ∧ Dr (w.alloc (.cells #[.slice (some ⟨bi, oi, none⟩) ni ci, .slice (some ⟨bo, oo, none⟩) ni co] 37)) wr) (fun _ i _ => ni - (intOf i).toNat)
  case atStart => exact ⟨0, Nat.zero_le _, rfl, rfl, (fun j hj => by omega), Dr.refl _⟩
  case round =>
    obtain ⟨k, hk, rfl, rfl, HA, q, rfl⟩ := hrel
    by_cases hlt : k < ni
    · have hcI := HP.out.I.at k hlt
      have hcO := HP.out.O.at k hlt
      simp only at hcI hcO
      have hpb := vk_bd k HA.out
      cases b1 : inB (I k) (prO ⟨I, ni, O, ni⟩ k) 2000
      · have HF : Hid (ptOk ⟨I, ni, O, ni⟩ ni = false) := ptOk_k hlt (by cases e : vkB ⟨I, ni, O, ni⟩ k; rfl; exact absurd (vk_in e).1 (by simp [b1]))
        have B1 := Lib.hid b1
        clear b1
        go_wp2_with fail
        go_quiet (first | (go_at_call_of 33 (O k); exact qAddS (l6In_at B1.out _)) | (go_at_call_of 33 (I k); exact qAddS (l6In_at B1.out _)))
        go_wp2_with fail
        go_ret
        exact ⟨retB HF.out.symm, (HBB.out _).trans (below_dr (by repeat (first | exact Dr.refl _ | exact ⟨_, rfl⟩ | refine Dr.drewN ?_ _)) _)⟩
      have hib := inB_true.1 b1
      have hw1 : IntKind.i64.wrap (I k + 1) = I k + 1 := IntWalk.i64_in _ (by omega)
      have B1 := Lib.hid b1
      cases b2 : inB (O k) (I k + 1) 2000
      · have HF : Hid (ptOk ⟨I, ni, O, ni⟩ ni = false) := ptOk_k hlt (by cases e : vkB ⟨I, ni, O, ni⟩ k; rfl; exact absurd (vk_in e).2 (by simp [b2]))
        have B2 := Lib.hid b2
        clear b1 b2
        go_wp2_with fail
        go_quiet (first | (go_at_call_of 33 (O k); exact qAddS (l6In_at B2.out _)) | (go_at_call_of 33 (I k); exact qAddS (l6In_at B1.out _)))
        go_wp2_with fail
        go_ret
        exact ⟨retB HF.out.symm, (HBB.out _).trans (below_dr (by repeat (first | exact Dr.refl _ | exact ⟨_, rfl⟩ | refine Dr.drewN ?_ _)) _)⟩
      have HV : Hid (vkB ⟨I, ni, O, ni⟩ k = true) := vk_of b1 b2
      have HA2 : Hid (∀ j, j < k + 1 → vkB ⟨I, ni, O, ni⟩ j = true) := fun j hj => by
        by_cases e : j = k
        · rw [e]; exact HV.out
        · exact HA.out j (by omega)
      have HS : Hid (prO ⟨I, ni, O, ni⟩ (k + 1) = O k) := prO_succ _ _
      have B2 := Lib.hid b2
      clear b1 b2
      go_wp2_with fail
      go_quiet (first | (go_at_call_of 33 (O k); exact qAddS (l6In_at B2.out _)) | (go_at_call_of 33 (I k); exact qAddS (l6In_at B1.out _)))
      go_wp2_with fail
      go_roundw
      case rel => exact ⟨k + 1, by omega, by go_num, by rw [HS.out], HA2, (by repeat (first | exact Dr.refl _ | exact ⟨_, rfl⟩ | refine Dr.drewN ?_ _))⟩
      case measure => simp [intOf]; omega
    · obtain rfl : k = ni := by omega
      have HT : Hid (ptOk ⟨I, k, O, k⟩ k = true) := ptOk_yes HI.out rfl rfl HA.out
      go_wp2_with fail
      go_ret
      exact ⟨retB HT.out.symm, (HBB.out _).trans (below_dr (by repeat (first | exact Dr.refl _ | exact ⟨_, rfl⟩ | refine Dr.drewN ?_ _)) _)⟩

/-- standing ahead of section k -/
def stnF (p : Pt) : Nat → Int
  | 0 => 0
  | k + 1 => stnF p k + (p.I (k + 1) - p.O k)
def stnV (p : Pt) (n : Int) : Int := if ptOk p n = true then stnF p (p.ni - 1) else -1
theorem stnV_no {p : Pt} {n : Int} (h : ptOk p n = false) : stnV p n = -1 := if_neg (by rw [h]; simp)
theorem stnV_yes {p : Pt} {n : Int} (h : ptOk p n = true) : stnV p n = stnF p (p.ni - 1) := if_pos h
theorem ok_bd {p : Pt} {n : Int} (h : ptOk p n = true) {k : Nat} (hk : k < p.ni) : 0 ≤ prO p k ∧ prO p k ≤ p.I k ∧ p.I k < p.O k ∧ p.O k ≤ 2000 := by
  have h1 := (ptOk_parts h).2.2.2
  have := vk_bd k (fun j hj => h1 j (by omega))
  have := vkB_true.1 (h1 k hk)
  omega
theorem stn_bd {p : Pt} {n : Int} (h : ptOk p n = true) : ∀ k, k < p.ni → 0 ≤ stnF p k ∧ stnF p k ≤ 2000 * k
  | 0, _ => by simp [stnF]
  | k + 1, hk => by
    have ih := stn_bd h k (by omega)
    have h1 := ok_bd h hk
    have h2 := ok_bd h (show k < p.ni by omega)
    have h3 := prO_succ p k
    simp only [stnF]
    rw [h3] at h1
    omega

set_option maxHeartbeats 2000000 in
theorem implStands_any (v : Value) (p : Pt) (n : Int) (w : World) (hp : PtV w v p) (hni : p.ni ≤ 1000000) (hno : p.no ≤ 1000000) (hn : -9223372036854775808 ≤ n ∧ n ≤ 9223372036854775807) :
    Calls Try.prog 18 #[.int .i64 n, v] w fun e w' => e = .returned (.int .i64 (stnV p n)) ∧ Below w.heap.size w w' := by
  obtain ⟨bi, oi, ci, bo, oo, co, rfl, hI, hO⟩ := hp
  have HP := Lib.hid (PtV.box (ci := ci) (co := co) (t := 37) hI hO)
  have HBB : Hid (∀ o, Below w.heap.size w (w.alloc o)) := fun o => below_all _ _
  clear hI hO
  cases hok : ptOk p n
  · have HK := Lib.hid hok
    clear hok
    go_enter Try.func18, Try.ntmps18
    go_wp2_with fail
    refine (valid_any _ p n bi oi ci bo oo co _ HP.out (by omega) (by omega) (by omega)).mono ?_
    rintro e w' ⟨rfl, q, rfl⟩
    rw [HK.out]
    go_wp2_with fail
    go_ret
    exact ⟨retI (stnV_no HK.out).symm, (HBB.out _).trans (below_dr (by repeat (first | exact Dr.refl _ | exact ⟨_, rfl⟩ | refine Dr.drewN ?_ _)) _)⟩
  have hpp := ptOk_parts hok
  obtain ⟨⟨hn1, hn2⟩, hn3, hn4, _⟩ := hpp
  have HK := Lib.hid hok
  obtain ⟨I, ni, O, no⟩ := p
  simp only at hni hno hn3 hn4
  obtain rfl : n = (ni : Int) := hn3.symm
  obtain rfl : ni = no := by omega
  clear hok hn3 hn4
  go_enter Try.func18, Try.ntmps18
  go_wp2_with fail
  refine (valid_any _ ⟨I, ni, O, ni⟩ _ bi oi ci bo oo co _ HP.out hni hni hn).mono ?_
  rintro e w' ⟨rfl, q0, rfl⟩
  rw [HK.out]
  go_wp2_with fail
  go_loopw [5, 6] (fun s i wr => ∃ k : Nat, k + 1 ≤ ni ∧ i = .int .i64 (k + 1 : Nat) ∧ s = .int .i64 (stnF ⟨I, ni, O, ni⟩ k) ∧ Dr (w.alloc (.cells #[.slice (some ⟨bi, oi, none⟩) ni ci, .slice (some ⟨bo, oo, none⟩) ni co] 37)) wr) (fun _ i _ => ni - (intOf i).toNat)
  case atStart => exact ⟨0, by omega, rfl, rfl, (by repeat (first | exact Dr.refl _ | exact ⟨_, rfl⟩ | refine Dr.drewN ?_ _))⟩
  case round =>
    obtain ⟨k, hk, rfl, rfl, q, rfl⟩ := hrel
    have hsb := stn_bd HK.out k (by simp only; omega)
    by_cases hlt : k + 1 < ni
    · have hcI := HP.out.I.at (k + 1) hlt
      have hcO := HP.out.O.at k (by simp only; omega)
      have hb1 := ok_bd HK.out (k := k + 1) hlt
      have hb2 := ok_bd HK.out (k := k) (by simp only; omega)
      rw [prO_succ] at hb1
      simp only at hcI hcO hb1 hb2
      have hw1 : IntKind.i64.wrap (((k + 1 : Nat) : Int) - 1) = k := by rw [show (((k + 1 : Nat) : Int) - 1) = k from by omega]; exact IntWalk.i64_in _ (by omega)
      have hw2 : IntKind.i64.wrap (I (k + 1) - O k) = I (k + 1) - O k := IntWalk.i64_in _ (by omega)
      have hw3 : IntKind.i64.wrap (stnF ⟨I, ni, O, ni⟩ k + (I (k + 1) - O k)) = stnF ⟨I, ni, O, ni⟩ k + (I (k + 1) - O k) := IntWalk.i64_in _ (by omega)
      have hk0 : (0 : Int) ≤ k := by omega
      have HS : Hid (stnF ⟨I, ni, O, ni⟩ (k + 1) = stnF ⟨I, ni, O, ni⟩ k + (I (k + 1) - O k)) := rfl
      clear hb1 hb2
      go_wp2_with fail
      go_quiet (fail)
      clear hw1 hw2 hw3
      go_wp2_with fail
      go_roundw
      case rel => exact ⟨k + 1, by omega, by go_num, by rw [HS.out], (by repeat (first | exact Dr.refl _ | exact ⟨_, rfl⟩ | refine Dr.drewN ?_ _))⟩
      case measure => simp [intOf]; omega
    · obtain rfl : k = ni - 1 := by omega
      go_wp2_with fail
      go_ret
      exact ⟨retI (stnV_yes HK.out).symm, (HBB.out _).trans (below_dr (by repeat (first | exact Dr.refl _ | exact ⟨_, rfl⟩ | refine Dr.drewN ?_ _)) _)⟩
set_option maxHeartbeats 2000000 in
theorem specStands_any (v : Value) (p : Pt) (n : Int) (w : World) (hp : PtV w v p) (hni : p.ni ≤ 1000000) (hno : p.no ≤ 1000000) (hn : -9223372036854775808 ≤ n ∧ n ≤ 9223372036854775807) :
    Calls Try.prog 19 #[.int .i64 n, v] w fun e w' => e = .returned (.int .i64 (stnV p n)) ∧ Below w.heap.size w w' := by
  have hp0 := hp
  obtain ⟨bi, oi, ci, bo, oo, co, rfl, hI, hO⟩ := hp
  have HPV := Lib.hid hp0
  have HP := Lib.hid (PtV.box (ci := ci) (co := co) (t := 37) hI hO)
  have HBB : Hid (∀ o, Below w.heap.size w (w.alloc o)) := fun o => below_all _ _
  clear hI hO hp0
  cases hok : ptOk p n
  · have HK := Lib.hid hok
    clear hok
    go_enter Try.func19, Try.ntmps19
    go_wp2_with fail
    refine (specPValid_any _ p n _ (HPV.out.keep (HBB.out _)) (by omega) (by omega) (by omega)).mono ?_
    rintro e w1 ⟨rfl, hb1⟩
    have HB1 := Lib.hid hb1
    rw [HK.out]
    clear hb1
    go_wp2_with fail
    go_ret
    exact ⟨retI (stnV_no HK.out).symm, (HBB.out _).trans (HB1.out.mono (by simp))⟩
  have hpp := ptOk_parts hok
  obtain ⟨⟨hn1, hn2⟩, hn3, hn4, _⟩ := hpp
  have HK := Lib.hid hok
  obtain ⟨I, ni, O, no⟩ := p
  simp only at hni hno hn3 hn4
  obtain rfl : n = (ni : Int) := hn3.symm
  obtain rfl : ni = no := by omega
  clear hok hn3 hn4
  go_enter Try.func19, Try.ntmps19
  go_wp2_with fail
  refine (specPValid_any _ ⟨I, ni, O, ni⟩ _ _ (HPV.out.keep (HBB.out _)) hni hni hn).mono ?_
  rintro e w1 ⟨rfl, hb1⟩
  have HB1 := Lib.hid ((HBB.out _).trans (hb1.mono (by simp)))
  have HP1 := Lib.hid (HP.out.keep hb1)
  have c0 := HP1.out.c0
  have c1 := HP1.out.c1
  rw [HK.out]
  clear hb1
  simp only at c0 c1
  go_wp2_with fail
  go_loopw [5, 6] (fun s i wr => ∃ k : Nat, k + 1 ≤ ni ∧ i = .int .i64 (k + 1 : Nat) ∧ s = .int .i64 (stnF ⟨I, ni, O, ni⟩ k) ∧ Dr w1 wr) (fun _ i _ => ni - (intOf i).toNat)
  case atStart => exact ⟨0, by omega, rfl, rfl, Dr.refl _⟩
  case round =>
    obtain ⟨k, hk, rfl, rfl, q, rfl⟩ := hrel
    have hsb := stn_bd HK.out k (by simp only; omega)
    by_cases hlt : k + 1 < ni
    · have hcI := HP1.out.I.at (k + 1) hlt
      have hcO := HP1.out.O.at k (by simp only; omega)
      have hb1 := ok_bd HK.out (k := k + 1) hlt
      have hb2 := ok_bd HK.out (k := k) (by simp only; omega)
      rw [prO_succ] at hb1
      simp only at hcI hcO hb1 hb2
      have hw1 : IntKind.i64.wrap (((k + 1 : Nat) : Int) - 1) = k := by rw [show (((k + 1 : Nat) : Int) - 1) = k from by omega]; exact IntWalk.i64_in _ (by omega)
      have hw2 : IntKind.i64.wrap (stnF ⟨I, ni, O, ni⟩ k + I (k + 1)) = stnF ⟨I, ni, O, ni⟩ k + I (k + 1) := IntWalk.i64_in _ (by omega)
      have hw3 : IntKind.i64.wrap (stnF ⟨I, ni, O, ni⟩ k + I (k + 1) - O k) = stnF ⟨I, ni, O, ni⟩ k + I (k + 1) - O k := IntWalk.i64_in _ (by omega)
      have hk0 : (0 : Int) ≤ k := by omega
      have HS : Hid (stnF ⟨I, ni, O, ni⟩ (k + 1) = stnF ⟨I, ni, O, ni⟩ k + I (k + 1) - O k) := by show _ = _; simp only [stnF]; omega
      clear hb1 hb2
      go_wp2_with fail
      go_quiet (fail)
      clear hw1 hw2 hw3
      go_wp2_with fail
      go_roundw
      case rel => exact ⟨k + 1, by omega, by go_num, by rw [HS.out], (by repeat (first | exact Dr.refl _ | exact ⟨_, rfl⟩ | refine Dr.drewN ?_ _))⟩
      case measure => simp [intOf]; omega
    · obtain rfl : k = ni - 1 := by omega
      go_wp2_with fail
      go_ret
      exact ⟨retI (stnV_yes HK.out).symm, HB1.out.trans (below_dr (by repeat (first | exact Dr.refl _ | exact ⟨_, rfl⟩ | refine Dr.drewN ?_ _)) _)⟩
end Go.Proofs.Ytlflkkigagdilaa
