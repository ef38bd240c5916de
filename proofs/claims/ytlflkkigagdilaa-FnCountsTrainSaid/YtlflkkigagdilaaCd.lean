/-
  Counters: the walks of CountsNet and CountsTrain, of the program and of the reference.
-/
import Derived.Test.YtlflkkigagdilaaCo
import Derived.StillTailTactics
namespace Go.Proofs.Ytlflkkigagdilaa
open Go.RowKit

/-- net numbers behind the first k pulses -/
def netF (ps : Nat → Int) : Nat → Nat → Int
  | 0, _ => 0
  | k + 1, j => netF ps k j + (if j = atP (ps k) then oneP (ps k) else 0)
theorem netF_bd (ps : Nat → Int) : ∀ (k j : Nat), -(k : Int) ≤ netF ps k j ∧ netF ps k j ≤ k
  | 0, j => by simp [netF]
  | k + 1, j => by
    have h1 := netF_bd ps k j
    have h2 := oneP_bd (ps k)
    simp only [netF]
    split <;> omega
def netB (n : Nat) (ps : Nat → Int) (k : Nat) : Bool := inB (ps k) (-1 - (n : Int)) n
def netOk (n m : Nat) (ps : Nat → Int) : Bool := inB n 1 8 && allB m (netB n ps)
theorem netOk_no {n m : Nat} {ps : Nat → Int} (h : inB n 1 8 = false) : netOk n m ps = false := by simp [netOk, h]
theorem netOk_at {n m k : Nat} {ps : Nat → Int} (hk : k < m) (h : netB n ps k = false) : netOk n m ps = false := by unfold netOk; rw [allB_not hk h]; simp
theorem netOk_yes {n m : Nat} {ps : Nat → Int} (h : inB n 1 8 = true) (h' : ∀ k, k < m → netB n ps k = true) : netOk n m ps = true := by unfold netOk; rw [allB_of h', h]; rfl
theorem netOk_true {n m : Nat} {ps : Nat → Int} : netOk n m ps = true ↔ (1 ≤ n ∧ n ≤ 8) ∧ ∀ k, k < m → atP (ps k) ≤ n := by
  simp only [netOk, Bool.and_eq_true, allB_true, inB_true, netB, inB_at, decide_eq_true_eq]
  constructor
  · intro h; exact ⟨by omega, h.2⟩
  · intro h; exact ⟨by omega, h.2⟩
theorem net_set {ps : Nat → Int} {k a : Nat} {o v : Int} (eA : atP (ps k) = a) (eO : oneP (ps k) = o) (e : v = netF ps k a + o) (i : Nat) : (if i = a then v else netF ps k i) = netF ps (k + 1) i := by
  simp only [netF]
  rw [eA, eO]
  by_cases h : i = a
  · rw [if_pos h, if_pos h, h, e]
  · rw [if_neg h, if_neg h]; omega

set_option maxHeartbeats 1000000 in
theorem implNet_any (n : Nat) (b' off' m c' : Nat) (ps : Nat → Int) (w : World) (hn : n ≤ 1000000000000) (hm : m ≤ 1000000000000) (hps : ∀ k, k < m → -9223372036854775808 ≤ ps k ∧ ps k ≤ 9223372036854775807) (hp : IC w b' off' m ps) :
    Calls Try.prog 9 #[.int .i64 n, .slice (some ⟨b', off', none⟩) m c'] w (IRes (netOk n m ps) (n + 1) (netF ps m) w) := by
  have HP := Lib.hid hp
  have HS := Lib.hid hps
  clear hp hps
  cases h1 : inB n 1 8
  · have H1 := Lib.hid h1
    have h2 := inB_false.1 h1
    clear h1
    by_cases h0 : n = 0
    · subst h0
      clear h2
      go_enter Try.func9, Try.ntmps9
      go_wp2_with fail
      go_ret2
      exact IRes.fail (netOk_no H1.out) (Nat.le_refl _) (own_empty _ _ _ _) ((Below.refl _ _).alloc (Nat.le_refl _) _)
    · have h9 : 8 < n := by omega
      clear h2 h0
      go_enter Try.func9, Try.ntmps9
      go_wp2_with fail
      go_ret2
      exact IRes.fail (netOk_no H1.out) (Nat.le_refl _) (own_empty _ _ _ _) ((Below.refl _ _).alloc (Nat.le_refl _) _)
  have H1 := Lib.hid h1
  have h2 := inB_true.1 h1
  obtain ⟨n1, n2⟩ := h2
  clear h1
  have hmk : ∀ w, (Instr.makeSlice 23 (.int .i64 ((n : Int) + 1)) (.int .i64 ((n : Int) + 1))).run Try.prog w = .ok (.slice (some ⟨w.heap.size, 0, none⟩) (n + 1) (n + 1)) (w.alloc (.cells (madeCells #[.int .i64 0] (n + 1)) 3)) := fun w => by
    have := run_mk elInt (n + 1) (n + 1) (Nat.le_refl _) (by omega) (by omega) w
    rw [Nat.mul_one] at this
    exact this
  go_enter Try.func9, Try.ntmps9
  go_wp2_with fail
  go_loopw [8, 9, 10, 11, 24] (fun _ _ _ _ i wr => ∃ k : Nat, k ≤ m ∧ i = .int .i64 k ∧ Own wr w.heap.size (n + 1) (n + 1) 1 3 (fun i => .int .i64 (netF ps k i)) ∧ (∀ j, j < k → netB n ps j = true) ∧ Below w.heap.size w wr) (fun _ _ _ _ i _ => m - (intOf i).toNat)
  case atStart => exact ⟨0, Nat.zero_le _, rfl, (own_full1 w _ (n + 1) _ (by unfold maxLen; omega)).congr (fun i hi => rfl), fun j hj => by omega, (Below.refl _ _).alloc (Nat.le_refl _) _⟩
  case round =>
    obtain ⟨k, hk, rfl, how, hall, hb⟩ := hrel
    have HA := Lib.hid hall
    have HW := Lib.hid how
    have HB := Lib.hid hb
    clear hall how hb
    by_cases hlt : k < m
    · have hpk := (HP.out.keep HB.out) k hlt
      have hpr := HS.out k hlt
      cases hr : netB n ps k
      · have HR := Lib.hid hr
        have hd : Hid (decide ((atP (ps k) : Int) ≤ n) = false) := by
          have h3 := hr
          unfold netB at h3
          rw [inB_at] at h3
          exact decide_eq_false (by have := of_decide_eq_false h3; omega)
        clear hr
        have HC := Lib.hid (ctr_any n (ps k) wr hpr)
        rw [hd.out] at HC
        go_wp2_with fail
        refine (HC.out).mono ?_
        rintro e w' ⟨rfl, rfl⟩
        go_wp2_with fail
        go_ret2
        exact IRes.fail (netOk_at hlt HR.out) (by have := HB.out.size; omega) (own_empty _ _ _ _) (HB.out.alloc (by have := HB.out.size; omega) _)
      · have HR := Lib.hid hr
        have hd : Hid (atP (ps k) ≤ n) := by
          have h3 := hr
          unfold netB at h3
          rw [inB_at] at h3
          exact (show atP (ps k) ≤ n from of_decide_eq_true h3)
        clear hr
        have HC := Lib.hid (ctr_any n (ps k) wr hpr)
        rw [decide_eq_true (show (atP (ps k) : Int) ≤ n by have := hd.out; omega)] at HC
        obtain ⟨a, ha⟩ : ∃ a, a = atP (ps k) := ⟨_, rfl⟩
        rw [← ha] at HC hd
        have HE := Lib.hid ha
        have ha2 : a ≤ n := hd.out
        have hbd := netF_bd ps k a
        have hob := oneP_bd (ps k)
        have hca := HW.out.cell1 (i := a) (by omega)
        have hfr := HW.out.free
        clear ha
        go_wp2_with fail
        refine (HC.out).mono ?_
        rintro e w' ⟨rfl, rfl⟩
        go_wp2_with fail
        go_roundw
        case rel => exact ⟨k + 1, by omega, by go_num, by exact own_set1 HW.out (fun i _ => net_set HE.out.symm rfl (by omega) i), fun j hj => by
            by_cases e : j = k
            · rw [e]; exact HR.out
            · exact HA.out j (by omega), HB.out.setCell (Nat.le_refl _) _⟩
        case measure => simp [intOf]; omega
    · obtain rfl : k = m := by omega
      go_wp2_with fail
      go_ret2
      exact IRes.good (netOk_yes H1.out HA.out) (Nat.le_refl _) HW.out HB.out

set_option maxHeartbeats 1000000 in
theorem specNet_any (n : Nat) (b' off' m c' : Nat) (ps : Nat → Int) (w : World) (hn : n ≤ 1000000000000) (hm : m ≤ 1000000000000) (hps : ∀ k, k < m → -9223372036854775808 ≤ ps k ∧ ps k ≤ 9223372036854775807) (hp : IC w b' off' m ps) :
    Calls Try.prog 10 #[.int .i64 n, .slice (some ⟨b', off', none⟩) m c'] w (IRes (netOk n m ps) (n + 1) (netF ps m) w) := by
  have HP := Lib.hid hp
  have HS := Lib.hid hps
  clear hp hps
  cases h1 : inB n 1 8
  · have H1 := Lib.hid h1
    clear h1
    go_enter Try.func10, Try.ntmps10
    go_wp2_with fail
    refine (l6In_any _ _ _ _).mono ?_
    rintro e w' ⟨rfl, rfl⟩
    rw [H1.out]
    go_wp2_with fail
    go_ret2
    exact IRes.fail (netOk_no H1.out) (Nat.le_refl _) (own_empty _ _ _ _) ((Below.refl _ _).alloc (Nat.le_refl _) _)
  have H1 := Lib.hid h1
  have h2 := inB_true.1 h1
  obtain ⟨n1, n2⟩ := h2
  clear h1
  have hmk : ∀ w, (Instr.makeSlice 23 (.int .i64 ((n : Int) + 1)) (.int .i64 ((n : Int) + 1))).run Try.prog w = .ok (.slice (some ⟨w.heap.size, 0, none⟩) (n + 1) (n + 1)) (w.alloc (.cells (madeCells #[.int .i64 0] (n + 1)) 3)) := fun w => by
    have := run_mk elInt (n + 1) (n + 1) (Nat.le_refl _) (by omega) (by omega) w
    rw [Nat.mul_one] at this
    exact this
  go_enter Try.func10, Try.ntmps10
  go_wp2_with fail
  refine (l6In_any _ _ _ _).mono ?_
  rintro e w' ⟨rfl, rfl⟩
  rw [H1.out]
  go_wp2_with fail
  go_loopw [7] (fun i wr => ∃ k : Nat, k ≤ m ∧ i = .int .i64 k ∧ Own wr w.heap.size (n + 1) (n + 1) 1 3 (fun i => .int .i64 (netF ps k i)) ∧ (∀ j, j < k → netB n ps j = true) ∧ Below w.heap.size w wr) (fun i _ => m - (intOf i).toNat)
  case atStart => exact ⟨0, Nat.zero_le _, rfl, (own_full1 w _ (n + 1) _ (by unfold maxLen; omega)).congr (fun i hi => rfl), fun j hj => by omega, (Below.refl _ _).alloc (Nat.le_refl _) _⟩
  case round =>
    obtain ⟨k, hk, rfl, how, hall, hb⟩ := hrel
    have HA := Lib.hid hall
    have HW := Lib.hid how
    have HB := Lib.hid hb
    clear hall how hb
    by_cases hlt : k < m
    · have hpk := (HP.out.keep HB.out) k hlt
      have hpr := HS.out k hlt
      cases hr : netB n ps k
      · have HR := Lib.hid hr
        have hd : Hid (inB (ps k) (-1 - (n : Int)) n = false) := hr
        clear hr
        go_wp2_with fail
        refine (l6In_any _ _ _ _).mono ?_
        rintro e w' ⟨rfl, rfl⟩
        rw [hd.out]
        go_wp2_with fail
        go_ret2
        exact IRes.fail (netOk_at hlt HR.out) (by have := HB.out.size; omega) (own_empty _ _ _ _) (HB.out.alloc (by have := HB.out.size; omega) _)
      · have HR := Lib.hid hr
        have hd : Hid (inB (ps k) (-1 - (n : Int)) n = true) := hr
        clear hr
        by_cases hneg : ps k < 0
        · obtain ⟨a, ha⟩ : ∃ a : Nat, ps k = -1 - (a : Int) := ⟨(-1 - ps k).toNat, by omega⟩
          have eA : Hid (atP (ps k) = a) := by rw [ha]; exact atP_minus a
          have eO : Hid (oneP (ps k) = -1) := by rw [ha]; exact oneP_minus a
          have ha2 : a ≤ n := by
            have h3 := HR.out
            unfold netB at h3
            rw [inB_at, eA.out] at h3
            exact of_decide_eq_true h3
          have hbd := netF_bd ps k a
          have hca := HW.out.cell1 (i := a) (by omega)
          have hfr := HW.out.free
          have hi0 : (0 : Int) ≤ (a : Int) := by omega
          have hi1 : (a : Int) < (n : Int) + 1 := by omega
          have mm : -1 - (-1 - (a : Int)) = (a : Int) := by omega
          rw [ha] at hpk hd hpr hneg
          have HE := Lib.hid ha
          clear ha
          go_wp2_with fail
          refine (l6In_any _ _ _ _).mono ?_
          rintro e w' ⟨rfl, rfl⟩
          rw [hd.out]
          go_wp2_with fail
          have mw : IntKind.i64.wrap (a : Int) = (a : Int) := IntWalk.i64_in _ (by omega)
          have mv : IntKind.i64.wrap (netF ps k a - 1) = netF ps k a - 1 := IntWalk.i64_in _ (by omega)
          go_still_tail 16, (by kernel_rfl)
          clear mw mv
          change wpList _ _ _ _ _ wr.drew
          go_wp2_with fail
          go_roundw
          case rel => exact ⟨k + 1, by omega, by go_num, by exact own_set1 (HW.out.drew) (fun i _ => net_set eA.out eO.out (by omega) i), fun j hj => by
            by_cases e : j = k
            · rw [e]; exact HR.out
            · exact HA.out j (by omega), HB.out.drew.setCell (Nat.le_refl _) _⟩
          case measure => simp [intOf]; omega
        · obtain ⟨a, ha⟩ : ∃ a : Nat, ps k = (a : Int) := ⟨(ps k).toNat, by omega⟩
          have eA : Hid (atP (ps k) = a) := by rw [ha]; exact atP_cast a
          have eO : Hid (oneP (ps k) = 1) := by rw [ha]; exact oneP_cast a
          have ha2 : a ≤ n := by
            have h3 := HR.out
            unfold netB at h3
            rw [inB_at, eA.out] at h3
            exact of_decide_eq_true h3
          have hbd := netF_bd ps k a
          have hca := HW.out.cell1 (i := a) (by omega)
          have hfr := HW.out.free
          have hi0 : (0 : Int) ≤ (a : Int) := by omega
          have hi1 : (a : Int) < (n : Int) + 1 := by omega
          rw [ha] at hpk hd hpr hneg
          have HE := Lib.hid ha
          clear ha
          go_wp2_with fail
          refine (l6In_any _ _ _ _).mono ?_
          rintro e w' ⟨rfl, rfl⟩
          rw [hd.out]
          go_wp2_with fail
          have mv : IntKind.i64.wrap (netF ps k a + 1) = netF ps k a + 1 := IntWalk.i64_in _ (by omega)
          go_still_tail 14, (by kernel_rfl)
          clear mv
          change wpList _ _ _ _ _ wr.drew
          go_wp2_with fail
          go_roundw
          case rel => exact ⟨k + 1, by omega, by go_num, by exact own_set1 (HW.out.drew) (fun i _ => net_set eA.out eO.out (by omega) i), fun j hj => by
            by_cases e : j = k
            · rw [e]; exact HR.out
            · exact HA.out j (by omega), HB.out.drew.setCell (Nat.le_refl _) _⟩
          case measure => simp [intOf]; omega
    · obtain rfl : k = m := by omega
      go_wp2_with fail
      go_ret2
      exact IRes.good (netOk_yes H1.out HA.out) (Nat.le_refl _) HW.out HB.out
end Go.Proofs.Ytlflkkigagdilaa
