/-
  The law FnCountsTrain: the walk.
-/
import Derived.Test.YtlflkkigagdilaaDt
import Derived.Test.YtlflkkigagdilaaTp
namespace Go.Proofs.Ytlflkkigagdilaa
open Go.RowKit

theorem IRes.hide {ok : Bool} {n : Nat} {f : Nat → Int} {w : World} {e : Ending} {w' : World} (h : IRes ok n f w e w') (N : Nat) (hN : N = if ok = true then n else 0) :
    ∃ g cap, e = .returned (.tuple #[.slice (some ⟨g, 0, none⟩) N cap, .bool ok]) ∧ w.heap.size ≤ g ∧ Own w' g cap N 1 3 (fun i => .int .i64 (f i)) ∧ Below w.heap.size w w' := by
  subst hN
  exact h

set_option maxRecDepth 100000 in
set_option maxHeartbeats 4000000 in
theorem lawTrain_any (ao : Option Addr) (n c : Nat) (ao2 : Option Addr) (m2 c2 : Nat) (w : World) (hB : BSl w ao n) (hnc : n ≤ c) (hn : n ≤ 9223372036854775807) (hn2 : m2 ≤ 9223372036854775807) :
    Calls Try.prog 4 #[.slice ao n c, .slice ao2 m2 c2] w fun e w' => e = .returned (.bool true) ∧ Below w.heap.size w w' := by
  have HBS := Lib.hid hB
  clear hB
  by_cases hlong : 1048576 < n
  · go_enter Try.func4, Try.ntmps4
    go_wp2_with fail
    go_ret
    exact ⟨rfl, Below.refl _ _⟩
  by_cases hlong2 : 1048576 < m2
  · go_enter Try.func4, Try.ntmps4
    go_wp2_with fail
    go_ret
    exact ⟨rfl, Below.refl _ _⟩
  go_enter Try.func4, Try.ntmps4
  go_wp2_with fail
  refine (drawTrain_any ao n c _ hnc hn HBS.out).mono ?_
  rintro e w1 ⟨k, a, rfl, hk, ha, hb1⟩
  have HB1 := Lib.hid hb1
  clear hb1
  obtain ⟨M, hM⟩ : ∃ M, M = (k + 1) * a := ⟨_, rfl⟩
  obtain ⟨N, hN⟩ : ∃ N, N = if traOk k a = true then M else 0 := ⟨_, rfl⟩
  have hMb : M ≤ 510 := by
    rw [hM]
    exact Nat.le_trans (Nat.mul_le_mul (by omega : k + 1 ≤ 10) ha) (by decide)
  have hNb : N ≤ 510 := by rw [hN]; split <;> omega
  have HM := Lib.hid hM
  have HN := Lib.hid hN
  clear hM hN
  have HC1 := Lib.hid (fun w => implTrain_any k a w (by omega) (by omega))
  have HC2 := Lib.hid (fun w => specTrain_any k a w (by omega) (by omega))
  rw [← HM.out] at HC1 HC2
  go_wp2_with fail
  refine (HC1.out _).mono ?_
  intro e w2 h2
  obtain ⟨g2, cap2, rfl, hg2, ho2, hb2⟩ := h2.hide N HN.out
  have HO2 := Lib.hid ho2
  have HB2 := Lib.hid (HB1.out.trans (hb2.mono HB1.out.size))
  clear h2 ho2 hb2
  go_wp2_with fail
  refine (HC2.out _).mono ?_
  intro e w3 h3
  obtain ⟨g3, cap3, rfl, hg3, ho3, hb3⟩ := h3.hide N HN.out
  have HO3 := Lib.hid ho3
  have HO23 := Lib.hid (HO2.out.below hb3 HO2.out.lt)
  have HB3 := Lib.hid (HB2.out.trans (hb3.mono HB2.out.size))
  clear h3 ho3 hb3
  have gb : ∀ b : Bool, (b != b) = false := fun b => by simp
  have gb2 : ∀ b : Bool, (b == b) = true := fun b => by simp
  cases hok : traOk k a
  · have HK := Lib.hid hok
    clear hok
    go_wp2_with fail
    refine (sameInts_any g2 0 N cap2 g3 0 N cap3 _ _ _ (by omega) (by omega) (IC.of_own HO23.out) (IC.of_own HO3.out)).mono ?_
    rintro e w4 ⟨rfl, q4, rfl⟩
    rw [eqSl_refl]
    go_wp2_with fail
    refine (sameInts_any g2 0 N cap2 g3 0 N cap3 _ _ _ (by omega) (by omega) (IC.of_own (HO23.out.drewN _)) (IC.of_own (HO3.out.drewN _))).mono ?_
    rintro e w5 ⟨rfl, q5, rfl⟩
    rw [eqSl_refl]
    go_wp2_with fail
    go_ret
    exact ⟨rfl, below_drewN HB3.out _⟩
  · have hNM : N = M := by rw [HN.out, hok]; rfl
    have hkk : (1 ≤ k ∧ k ≤ 8) ∧ 1 ≤ a ∧ a ≤ 50 := by
      simp only [traOk, Bool.and_eq_true, inB_true] at hok
      omega
    have HK := Lib.hid hok
    clear HN hok
    obtain rfl : M = N := hNM.symm
    clear hNM
    obtain ⟨⟨hk1, hk8⟩, ha1, ha50⟩ := hkk
    have hmk : ∀ w, (Instr.makeSlice 23 (.int .i64 (k : Int)) (.int .i64 (k : Int))).run Try.prog w = .ok (.slice (some ⟨w.heap.size, 0, none⟩) k k) (w.alloc (.cells (madeCells #[.int .i64 0] k) 3)) := fun w => by
      have := run_mk elInt k k (Nat.le_refl _) (by omega) (by omega) w
      rw [Nat.mul_one] at this
      exact this
    obtain ⟨q, hq⟩ : ∃ q, q = m2 % k := ⟨_, rfl⟩
    have hqk : q < k := by rw [hq]; exact Nat.mod_lt _ (by omega)
    have hm1 : ((m2 : Int) % (k : Int)) = (q : Int) := by rw [hq]; rfl
    obtain ⟨T, hT⟩ : ∃ T, T = (q + 1) * a := ⟨_, rfl⟩
    have hTM : T ≤ M := by rw [hT, HM.out]; exact Nat.mul_le_mul_right _ (by omega)
    have hm2 : (a : Int) * ((q : Int) + 1) = (T : Int) := by rw [hT, Int.mul_comm]; simp
    have HT := Lib.hid hT
    have hcapM : M ≤ cap2 := HO2.out.1
    clear hq hT
    have HPS : Hid (∀ t, t < M → -9223372036854775808 ≤ traF a t ∧ traF a t ≤ 9223372036854775807) := fun t ht => by
      have := traF_bd hk8 (by rw [← HM.out]; exact ht)
      omega
    have HR1 : Hid (runOk k zeroF M (traF a) = true) := run_ok ⟨hk1, hk8⟩ ⟨ha1, ha50⟩ (by rw [HM.out]; exact Nat.le_refl _)
    have HR2 : Hid (runOk k zeroF T (traF a) = true) := run_ok ⟨hk1, hk8⟩ ⟨ha1, ha50⟩ (by rw [← HM.out]; exact hTM)
    have HNK : Hid (netOk k M (traF a) = true) := by
      show netOk k M (traF a) = true
      rw [HM.out]
      exact net_ok ⟨hk1, hk8⟩
    obtain ⟨N1, hN1⟩ : ∃ N1, N1 = k + 1 := ⟨_, rfl⟩
    have hN1n : ((N1 : Int) != (k : Int) + 1) = false := by simp [hN1]
    have hN1b : N1 ≤ k + 1 ∧ k + 1 ≤ N1 := by omega
    have HN1 := Lib.hid hN1
    clear hN1
    go_wp2_with fail
    refine (sameInts_any g2 0 M cap2 g3 0 M cap3 _ _ _ (by omega) (by omega) (IC.of_own HO23.out) (IC.of_own HO3.out)).mono ?_
    rintro e w4 ⟨rfl, q4, rfl⟩
    rw [eqSl_refl]
    have HB4 := Lib.hid (below_drewN HB3.out q4)
    have HO24 := Lib.hid (HO23.out.drewN q4)
    go_wp2_with fail
    have HZ : Hid (Own ((w3.drewN q4).alloc (.cells (madeCells #[.int .i64 0] k) 3)) w3.heap.size k k 1 3 (fun i => .int .i64 (zeroF i))) := (own_full1 (w3.drewN q4) (.int .i64 0) k 3 (by unfold maxLen; omega)).congr (fun i hi => rfl)
    have HO2a := Lib.hid (HO24.out.alloc (.cells (madeCells #[.int .i64 0] k) 3))
    have HBz := Lib.hid (HB4.out.alloc (by have := HB4.out.size; exact this) (.cells (madeCells #[.int .i64 0] k) 3))
    have hz3 : w.heap.size ≤ w3.heap.size := HB3.out.size
    refine (implRun_any w3.heap.size 0 k k g2 0 M cap2 zeroF (traF a) _ (by omega) (by omega) HPS.out (IC.of_own HZ.out) (IC.of_own HO2a.out)).mono ?_
    intro e w5 h5
    obtain ⟨g5, c5, rfl, hg5, ho5, hb5⟩ := h5.yes HR1.out
    have HX := Lib.hid (ho5.congr (f' := fun i => .int .i64 (zeroF i)) (fun i hi => by rw [HM.out, run_end (n := k) (by omega)]))
    have HZ5 := Lib.hid (HZ.out.below hb5 HZ.out.lt)
    have HO5 := Lib.hid (HO2a.out.below hb5 HO2a.out.lt)
    have HB5 := Lib.hid (HBz.out.trans (hb5.mono HBz.out.size))
    clear h5 ho5 hb5
    have HCN := Lib.hid (fun w h => implNet_any k g2 0 M cap2 (traF a) w (by omega) (by omega) HPS.out h)
    rw [← HN1.out] at HCN
    go_wp2_with fail
    refine (HCN.out _ (IC.of_own HO5.out)).mono ?_
    intro e w6 h6
    obtain ⟨g6, c6, rfl, hg6, ho6, hb6⟩ := h6.yes HNK.out
    have HNet := Lib.hid (ho6.congr (f' := fun _ => .int .i64 (a : Int)) (fun i hi => by rw [HM.out, net_end (n := k) (by have := HN1.out; omega)]))
    have HX6 := Lib.hid (HX.out.below hb6 HX.out.lt)
    have HZ6 := Lib.hid (HZ5.out.below hb6 HZ5.out.lt)
    have HO6 := Lib.hid (HO5.out.below hb6 HO5.out.lt)
    have HB6 := Lib.hid (HB5.out.trans (hb6.mono HB5.out.size))
    clear h6 ho6 hb6 HCN
    go_wp2_with fail
    refine (implRun_any w3.heap.size 0 k k g2 0 T cap2 zeroF (traF a) _ (by omega) (by omega) (fun t ht => HPS.out t (by omega)) (IC.of_own HZ6.out) (IC.of_own (HO6.out.less hTM))).mono ?_
    intro e w7 h7
    obtain ⟨g7, c7, rfl, hg7, ho7, hb7⟩ := h7.yes HR2.out
    have HY := Lib.hid (ho7.congr (f' := fun i => .int .i64 (if i = q then (a : Int) else 0)) (fun i hi => by rw [HT.out, run_mid]))
    have HX7 := Lib.hid (HX6.out.below hb7 HX6.out.lt)
    have HZ7 := Lib.hid (HZ6.out.below hb7 HZ6.out.lt)
    have HN7 := Lib.hid (HNet.out.below hb7 HNet.out.lt)
    have HB7 := Lib.hid (HB6.out.trans (hb7.mono HB6.out.size))
    clear h7 ho7 hb7
    clear hm2
    go_wp2_with fail
    go_loopw [19] (fun i wr => ∃ j : Nat, j ≤ k + 1 ∧ i = .int .i64 j ∧ Dr w7 wr) (fun i _ => k + 1 - (intOf i).toNat)
    case atStart => exact ⟨0, Nat.zero_le _, rfl, Dr.refl _⟩
    case round =>
      obtain ⟨j, hj, rfl, qq, rfl⟩ := hrel
      by_cases hlt : j < k + 1
      · have hcj := HN7.out.cell1 (i := j) (by omega)
        have hj2 : (j : Int) < (N1 : Int) := by omega
        go_wp2_with fail
        go_roundw
        case rel => exact ⟨j + 1, by omega, by go_num, (by repeat (first | exact Dr.refl _ | exact ⟨_, rfl⟩ | refine Dr.drewN ?_ _))⟩
        case measure => simp [intOf]; omega
      · have hcy : w7.cell? ⟨g7, q, none⟩ = some (.int .i64 (a : Int)) := by
          have := HY.out.cell1 hqk
          simpa using this
        have hsum : sumTo (fun i => if i = q then (a : Int) else 0) k = a := by rw [sumTo_one, if_pos hqk]
        have HSUM := Lib.hid hsum
        clear hsum
        go_wp2_with fail
        refine (sameInts_any g5 0 k c5 w3.heap.size 0 k k _ _ _ (by omega) (by omega) (IC.of_own (HX7.out.drewN _)) (IC.of_own (HZ7.out.drewN _))).mono ?_
        rintro e w8 ⟨rfl, q8, rfl⟩
        rw [eqSl_refl]
        go_wp2_with fail
        refine (lawsSum_any g7 0 k c7 (fun i => if i = q then (a : Int) else 0) _ (by omega) (fun i hi => by split <;> omega) (IC.of_own (HY.out.drewN _))).mono ?_
        rintro e w9 ⟨rfl, rfl⟩
        rw [HSUM.out]
        go_wp2_with fail
        go_ret
        exact ⟨rfl, below_drewN HB7.out _⟩
end Go.Proofs.Ytlflkkigagdilaa
