/-
  Counters: the pulses of a train: plain, and the walks of CountsTrain.
-/
import Derived.Test.YtlflkkigagdilaaLPu
namespace Go.Proofs.Ytlflkkigagdilaa
open Go.RowKit

/-- the pulses of a train of a axles -/
def traF (a i : Nat) : Int := ((i / a : Nat) : Int)
theorem traF_at {a k i L : Nat} (hL : L = k * a + i) (hi : i < a) : traF a L = (k : Int) := by
  unfold traF
  congr 1
  rw [hL, Nat.mul_comm, Nat.mul_add_div (by omega), Nat.div_eq_of_lt hi, Nat.add_zero]
def traOk (n a : Int) : Bool := inB n 1 8 && inB a 1 50
theorem traOk_no1 {n a : Int} (h : inB n 1 8 = false) : traOk n a = false := by simp [traOk, h]
theorem traOk_no2 {n a : Int} (h : inB a 1 50 = false) : traOk n a = false := by simp [traOk, h]
theorem traOk_yes {n a : Int} (h : inB n 1 8 = true) (h' : inB a 1 50 = true) : traOk n a = true := by simp [traOk, h, h']

theorem mul_le_450 {n a : Nat} (hn : n ≤ 8) (ha : a ≤ 50) : (n + 1) * a ≤ 450 := Nat.le_trans (Nat.mul_le_mul (by omega : n + 1 ≤ 9) ha) (by decide)
theorem len_succ (k a : Nat) : (k + 1) * a = k * a + a := by rw [Nat.add_mul, Nat.one_mul]
theorem len_le {k n a : Nat} (h : k ≤ n) : k * a ≤ n * a := Nat.mul_le_mul_right _ h

/-- the list so far: L pulses, behind k counters and i axles -/
def TraL (a k i L : Nat) : Prop := L = k * a + i
theorem TraL.next {a k i L : Nat} (h : TraL a k i L) : TraL a k (i + 1) (L + 1) := by unfold TraL at *; omega
theorem TraL.row {a k L : Nat} (h : TraL a k a L) : TraL a (k + 1) 0 L := by unfold TraL at *; rw [len_succ]; omega
theorem TraL.le {a k i L n : Nat} (h : TraL a k i L) (hk : k ≤ n) (hi : i ≤ a) (hn : n ≤ 8) (ha : a ≤ 50) : L ≤ 450 := by
  have h1 := len_le (a := a) hk
  have h2 := mul_le_450 hn ha
  rw [len_succ] at h2
  unfold TraL at h
  omega

set_option maxHeartbeats 1000000 in
theorem specTrain_any (n a : Nat) (w : World) (hn : n ≤ 1000) (ha : a ≤ 1000) :
    Calls Try.prog 15 #[.int .i64 n, .int .i64 a] w (IRes (traOk n a) ((n + 1) * a) (traF a) w) := by
  cases h1 : inB n 1 8
  · have H1 := Lib.hid h1
    clear h1
    go_enter Try.func15, Try.ntmps15
    go_wp2_with fail
    refine (l6In_any _ _ _ _).mono ?_
    rintro e w' ⟨rfl, rfl⟩
    rw [H1.out]
    go_wp2_with fail
    go_ret2
    exact IRes.fail (traOk_no1 H1.out) (Nat.le_refl _) (own_empty _ _ _ _) ((Below.refl _ _).alloc (Nat.le_refl _) _)
  cases h2 : inB a 1 50
  · have H1 := Lib.hid h1
    have H2 := Lib.hid h2
    clear h1 h2
    go_enter Try.func15, Try.ntmps15
    go_wp2_with fail
    refine (l6In_any _ _ _ _).mono ?_
    rintro e w' ⟨rfl, rfl⟩
    rw [H1.out]
    go_wp2_with fail
    refine (l6In_any _ _ _ _).mono ?_
    rintro e w' ⟨rfl, rfl⟩
    rw [H2.out]
    go_wp2_with fail
    go_ret2
    exact IRes.fail (traOk_no2 H2.out) (Nat.le_refl _) (own_empty _ _ _ _) ((Below.refl _ _).alloc (Nat.le_refl _) _)
  have b1 := inB_true.1 h1
  have b2 := inB_true.1 h2
  have H1 := Lib.hid h1
  have H2 := Lib.hid h2
  have hn8 : n ≤ 8 := by omega
  have ha50 : a ≤ 50 := by omega
  have hn1 : 1 ≤ n := by omega
  have ha1 : 1 ≤ a := by omega
  clear h1 h2 b1 b2 hn ha
  go_enter Try.func15, Try.ntmps15
  go_wp2_with fail
  refine (l6In_any _ _ _ _).mono ?_
  rintro e w' ⟨rfl, rfl⟩
  rw [H1.out]
  go_wp2_with fail
  refine (l6In_any _ _ _ _).mono ?_
  rintro e w' ⟨rfl, rfl⟩
  rw [H2.out]
  go_wp2_with fail
  go_loopw [6, 7, 8] (fun out sk _ wr => ∃ k L g cap : Nat, k ≤ n + 1 ∧ sk = .int .i64 k ∧ out = .slice (some ⟨g, 0, none⟩) L cap ∧ w.heap.size ≤ g ∧ Own wr g cap L 1 3 (fun i => .int .i64 (traF a i)) ∧ Hid (TraL a k 0 L) ∧ Below w.heap.size w wr) (fun _ sk _ _ => n + 1 - (intOf sk).toNat)
  case atStart => exact ⟨0, 0, _, _, Nat.zero_le _, rfl, rfl, Nat.le_refl _, own_empty _ _ _ _, (by show 0 = 0 * a + 0; omega), (Below.refl _ _).alloc (Nat.le_refl _) _⟩
  case round =>
    obtain ⟨k, L, g, cap, hk, rfl, rfl, hg, how, HL, hb⟩ := hrel
    have HW := Lib.hid how
    have HB := Lib.hid hb
    clear how hb
    by_cases hlt : k < n + 1
    · have hkn : k ≤ n := by omega
      obtain ⟨wo, hwo⟩ : ∃ wo : World, wo = wr := ⟨_, rfl⟩
      subst hwo
      go_wp2_with fail
      go_loopw [6, 8] (fun out si wr => ∃ i L g cap : Nat, i ≤ a ∧ si = .int .i64 i ∧ out = .slice (some ⟨g, 0, none⟩) L cap ∧ w.heap.size ≤ g ∧ Own wr g cap L 1 3 (fun i => .int .i64 (traF a i)) ∧ Hid (TraL a k i L) ∧ Below w.heap.size w wr) (fun _ si _ => a - (intOf si).toNat)
      case atStart => exact ⟨0, L, g, cap, Nat.zero_le _, rfl, rfl, hg, HW.out, HL, HB.out⟩
      case round =>
        obtain ⟨i, L, g, cap, hi, rfl, rfl, hg2, how2, HL2, hb2⟩ := hrel
        have HW2 := Lib.hid how2
        have HB2 := Lib.hid hb2
        clear how2 hb2
        by_cases hlt2 : i < a
        · have hLb := HL2.out.le hkn (by omega) hn8 ha50
          have hv : Hid ((k : Int) = traF a L) := (traF_at HL2.out hlt2).symm
          go_wp2_with (at_builtin; refine wpList_pushI elInt rfl (.tmp 29) (.tmp 31) (by rfl) HW2.out (by rfl) (by rfl) hv.out (by omega) ?_; intro g' c' wc HA hgr hd)
          have z0 := HB2.out.size
          go_roundw
          case rel => exact ⟨i + 1, L + 1, g', c', by omega, by go_num, rfl, by omega, HA, HL2.out.next, HB2.out.trans (below_of_grown hgr hg2 z0)⟩
          case measure => simp [intOf]; omega
        · obtain rfl : i = a := by omega
          go_wp2_with fail
          go_roundw
          case rel => exact ⟨k + 1, L, g, cap, by omega, by go_num, rfl, hg2, HW2.out, HL2.out.row, HB2.out⟩
          case measure => simp [intOf]; omega
    · obtain rfl : k = n + 1 := by omega
      have hLM : L = (n + 1) * a := by have := HL.out; unfold TraL at this; omega
      have HLM := Lib.hid hLM
      clear hLM
      go_wp2_with fail
      go_ret2
      rw [← HLM.out]
      exact IRes.good (traOk_yes H1.out H2.out) hg HW.out HB.out

set_option maxHeartbeats 1000000 in
theorem implTrain_any (n a : Nat) (w : World) (hn : n ≤ 1000) (ha : a ≤ 1000) :
    Calls Try.prog 14 #[.int .i64 n, .int .i64 a] w (IRes (traOk n a) ((n + 1) * a) (traF a) w) := by
  by_cases c1 : n < 1
  · have HN : Hid (traOk n a = false) := traOk_no1 (inB_false.2 (by omega))
    go_enter Try.func14, Try.ntmps14
    go_wp2_with fail
    go_ret2
    exact IRes.fail HN.out (Nat.le_refl _) (own_empty _ _ _ _) ((Below.refl _ _).alloc (Nat.le_refl _) _)
  by_cases c2 : 8 < n
  · have HN : Hid (traOk n a = false) := traOk_no1 (inB_false.2 (by omega))
    go_enter Try.func14, Try.ntmps14
    go_wp2_with fail
    go_ret2
    exact IRes.fail HN.out (Nat.le_refl _) (own_empty _ _ _ _) ((Below.refl _ _).alloc (Nat.le_refl _) _)
  by_cases c3 : a < 1
  · have HN : Hid (traOk n a = false) := traOk_no2 (inB_false.2 (by omega))
    go_enter Try.func14, Try.ntmps14
    go_wp2_with fail
    go_ret2
    exact IRes.fail HN.out (Nat.le_refl _) (own_empty _ _ _ _) ((Below.refl _ _).alloc (Nat.le_refl _) _)
  by_cases c4 : 50 < a
  · have HN : Hid (traOk n a = false) := traOk_no2 (inB_false.2 (by omega))
    go_enter Try.func14, Try.ntmps14
    go_wp2_with fail
    go_ret2
    exact IRes.fail HN.out (Nat.le_refl _) (own_empty _ _ _ _) ((Below.refl _ _).alloc (Nat.le_refl _) _)
  have HK : Hid (traOk n a = true) := traOk_yes (inB_true.2 (by omega)) (inB_true.2 (by omega))
  have hn8 : n ≤ 8 := by omega
  have ha50 : a ≤ 50 := by omega
  have hn1 : 1 ≤ n := by omega
  have ha1 : 1 ≤ a := by omega
  clear c1 c2 c3 c4 hn ha
  have hM := mul_le_450 hn8 ha50
  obtain ⟨M, hMe⟩ : ∃ M, M = (n + 1) * a := ⟨_, rfl⟩
  rw [← hMe] at hM ⊢
  have HM := Lib.hid hMe
  have hmm : ((n : Int) + 1) * (a : Int) = (M : Int) := by rw [hMe]; simp
  clear hMe
  have d1 : decide ((n : Int) < 1) = false := decide_eq_false (by omega)
  have d2 : decide (8 < (n : Int)) = false := decide_eq_false (by omega)
  have d3 : decide ((a : Int) < 1) = false := decide_eq_false (by omega)
  have d4 : decide (50 < (a : Int)) = false := decide_eq_false (by omega)
  have hmk := fun w => run_mk0 elInt M (by omega) (by omega) w
  go_enter Try.func14, Try.ntmps14
  go_wp2_with fail
  clear hmm
  go_loopw [6, 7, 30, 34] (fun out _ sk _ wr => ∃ k L g cap : Nat, k ≤ n + 1 ∧ sk = .int .i64 k ∧ out = .slice (some ⟨g, 0, none⟩) L cap ∧ w.heap.size ≤ g ∧ Own wr g cap L 1 3 (fun i => .int .i64 (traF a i)) ∧ Hid (TraL a k 0 L) ∧ Below w.heap.size w wr) (fun _ _ sk _ _ => n + 1 - (intOf sk).toNat)
  case atStart => exact ⟨0, 0, _, _, Nat.zero_le _, rfl, rfl, Nat.le_refl _, own_at _ _ _ _ _ (by unfold maxLen; omega) rfl, (by show 0 = 0 * a + 0; omega), (Below.refl _ _).alloc (Nat.le_refl _) _⟩
  case round =>
    obtain ⟨k, L, g, cap, hk, rfl, rfl, hg, how, HL, hb⟩ := hrel
    have HW := Lib.hid how
    have HB := Lib.hid hb
    clear how hb
    by_cases hlt : k < n + 1
    · have hkn : k ≤ n := by omega
      have dk : decide ((k : Int) < (n : Int) + 1) = true := decide_eq_true (by omega)
      obtain ⟨wo, hwo⟩ : ∃ wo : World, wo = wr := ⟨_, rfl⟩
      subst hwo
      go_wp2_with fail
      go_loopw [6, 34] (fun out si wr => ∃ i L g cap : Nat, i ≤ a ∧ si = .int .i64 i ∧ out = .slice (some ⟨g, 0, none⟩) L cap ∧ w.heap.size ≤ g ∧ Own wr g cap L 1 3 (fun i => .int .i64 (traF a i)) ∧ Hid (TraL a k i L) ∧ Below w.heap.size w wr) (fun _ si _ => a - (intOf si).toNat)
      case atStart => exact ⟨0, L, g, cap, Nat.zero_le _, rfl, rfl, hg, HW.out, HL, HB.out⟩
      case round =>
        obtain ⟨i, L, g, cap, hi, rfl, rfl, hg2, how2, HL2, hb2⟩ := hrel
        have HW2 := Lib.hid how2
        have HB2 := Lib.hid hb2
        clear how2 hb2
        by_cases hlt2 : i < a
        · have hLb := HL2.out.le hkn (by omega) hn8 ha50
          have hv : Hid ((k : Int) = traF a L) := (traF_at HL2.out hlt2).symm
          go_wp2_with (at_builtin; refine wpList_pushI elInt rfl (.tmp 36) (.tmp 38) (by rfl) HW2.out (by rfl) (by rfl) hv.out (by omega) ?_; intro g' c' wc HA hgr hd)
          have z0 := HB2.out.size
          go_roundw
          case rel => exact ⟨i + 1, L + 1, g', c', by omega, by go_num, rfl, by omega, HA, HL2.out.next, HB2.out.trans (below_of_grown hgr hg2 z0)⟩
          case measure => simp [intOf]; omega
        · obtain rfl : i = a := by omega
          go_wp2_with fail
          go_roundw
          case rel => exact ⟨k + 1, L, g, cap, by omega, by go_num, rfl, hg2, HW2.out, HL2.out.row, HB2.out⟩
          case measure => simp [intOf]; omega
    · obtain rfl : k = n + 1 := by omega
      have hLM : L = M := by have := HL.out; have := HM.out; unfold TraL at *; omega
      obtain rfl : L = M := hLM
      go_wp2_with fail
      go_ret2
      exact IRes.good HK.out hg HW.out HB.out
end Go.Proofs.Ytlflkkigagdilaa
