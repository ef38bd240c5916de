/-
  Walks on paths: fitting a path where there are no others.
-/
import Derived.Test.YtlflkkigagdilaaPc
namespace Go.Proofs.Ytlflkkigagdilaa
open Go.RowKit

theorem pathsValid_nil (ao : Option Addr) (c : Nat) (n : Int) (w : World) (hn : -9223372036854775808 ≤ n ∧ n ≤ 9223372036854775807) :
    Calls Try.prog 45 #[.int .i64 n, .slice ao 0 c] w fun e w' => e = .returned (.bool (inB n 1 5)) ∧ w = w' := by
  have HN := Lib.hid hn
  clear hn
  cases hin : inB n 1 5
  · have HI := Lib.hid hin
    clear hin
    go_enter Try.func45, Try.ntmps45
    go_wp2_with fail
    refine (sectionsValid_any n _ HN.out).mono ?_
    rintro e w' ⟨rfl, rfl⟩
    rw [HI.out]
    go_wp2_with fail
    go_ret
    exact ⟨rfl, rfl⟩
  · have HI := Lib.hid hin
    clear hin
    go_enter Try.func45, Try.ntmps45
    go_wp2_with fail
    refine (sectionsValid_any n _ HN.out).mono ?_
    rintro e w' ⟨rfl, rfl⟩
    rw [HI.out]
    go_wp2_with fail
    go_loop [17] (fun i => i = .int .i64 0) (fun _ => 0)
    case atStart => rfl
    case round =>
      subst hrel
      go_wp2_with fail
      go_ret
      exact ⟨rfl, rfl⟩
theorem hasSection_nil (ao : Option Addr) (c : Nat) (n k : Int) (w : World) (hn : 1 ≤ n ∧ n ≤ 5) (hk : 0 ≤ k ∧ k < n) :
    Calls Try.prog 50 #[.int .i64 n, .slice ao 0 c, .int .i64 k] w fun e w' => e = .returned (.bool true) ∧ w = w' := by
  have HI : Hid (inB n 1 5 = true) := inB_true.2 hn
  obtain ⟨hn1, hn2⟩ := hn
  obtain ⟨hk1, hk2⟩ := hk
  go_enter Try.func50, Try.ntmps50
  go_wp2_with fail
  refine (pathsValid_nil ao c n _ (by omega)).mono ?_
  rintro e w' ⟨rfl, rfl⟩
  rw [HI.out]
  go_wp2_with fail
  go_ret
  exact ⟨rfl, rfl⟩
theorem freeFn_nil (b1 b2 b3 : Nat) (ao : Option Addr) (c : Nat) (t : Int) (w : World) (hb : w.cell? ⟨b1, 0, none⟩ = some (.slice ao 0 c)) :
    Calls Try.prog 51 #[.int .i64 t, .pointer (some ⟨b1, 0, none⟩), .pointer (some ⟨b2, 0, none⟩), .pointer (some ⟨b3, 0, none⟩)] w fun e w' => e = .returned (.bool true) ∧ w = w' := by
  go_enter Try.func51, Try.ntmps51
  go_wp2_with fail
  go_loop [9] (fun i => i = .int .i64 0) (fun _ => 0)
  case atStart => rfl
  case round =>
    subst hrel
    go_wp2_with fail
    go_ret
    exact ⟨rfl, rfl⟩
set_option maxHeartbeats 1000000 in
theorem pathsFree_nil (ao : Option Addr) (c : Nat) (n k t r : Int) (w : World) (hn : 1 ≤ n ∧ n ≤ 5) (hk : 0 ≤ k ∧ k < n) (hr : 1 ≤ r ∧ r ≤ 100) (ht : 0 ≤ t ∧ t + r ≤ 2000) :
    Calls Try.prog 46 #[.int .i64 n, .slice ao 0 c, .int .i64 k, .int .i64 t, .int .i64 r] w fun e w' => e = .returned (.tuple #[.int .i64 t, .bool true]) ∧ Below w.heap.size w w' := by
  have HN := Lib.hid hn
  have HK := Lib.hid hk
  obtain ⟨hr1, hr2⟩ := hr
  obtain ⟨ht1, ht2⟩ := ht
  have hbb : ∀ a b d, Below w.heap.size w (((w.alloc a).alloc b).alloc d) := fun a b d => (((Below.refl _ _).alloc (Nat.le_refl _) _).alloc (by simp) _).alloc (by simp; omega) _
  have HB := Lib.hid hbb
  clear hbb hn hk
  have hd : decide (t ≤ 2000 - r) = true := decide_eq_true (by omega)
  go_enter Try.func46, Try.ntmps46
  go_wp2_with fail
  refine (hasSection_nil ao c n k _ HN.out HK.out).mono ?_
  rintro e w' ⟨rfl, rfl⟩
  go_wp2_with fail
  go_loopw [13] (fun i wr => i = .int .i64 t ∧ Below w.heap.size w wr ∧ wr.cell? ⟨w.heap.size, 0, none⟩ = some (.slice ao 0 c) ∧ wr.cell? ⟨w.heap.size + 1 + 1, 0, none⟩ = some (.int .i64 r)) (fun _ _ => 0)
  case atStart => exact ⟨rfl, HB.out _ _ _, by simp [go_sem], by simp [go_sem]⟩
  case round =>
    obtain ⟨rfl, hb, hc0, hc1⟩ := hrel
    have HBr := Lib.hid hb
    have HC0 := Lib.hid hc0
    clear hb
    go_wp2_with fail
    refine (freeFn_nil _ _ _ ao c t _ HC0.out).mono ?_
    rintro e w' ⟨rfl, rfl⟩
    go_wp2_with fail
    go_ret2
    exact ⟨rfl, HBr.out⟩

set_option maxHeartbeats 2000000 in
theorem pathsFit_nil (ao : Option Addr) (c0 : Nat) (t : Int) (b off n c : Nat) (f : Nat → Int) (w : World) (hn : n ≤ 1000000) (hc : IC w b off n f) (hok : runOk t f n = true) :
    Calls Try.prog 27 #[.int .i64 n, .slice ao 0 c0, .int .i64 t, .slice (some ⟨b, off, none⟩) n c] w (PtRes true (runPt t f n) w) := by
  have HC := Lib.hid hc
  have HBB : Hid (∀ o, Below w.heap.size w (w.alloc o)) := fun o => below_all _ _
  clear hc
  obtain ⟨hr, htb, hpt⟩ := runOk_parts hok
  have HR := Lib.hid hr
  have HPT := Lib.hid hpt
  have hrp := rvB_parts hr
  have HSUM := Lib.hid (sum_run hrp.2.2)
  have HF := Lib.hid hrp.2.2
  obtain ⟨⟨hn1, hn2⟩, _, _⟩ := hrp
  obtain ⟨ht1, ht2⟩ := htb
  have HIN : Hid (inB (n : Int) 1 5 = true) := inB_true.2 ⟨hn1, hn2⟩
  clear hr hpt hok
  have hmk := fun w => run_mk elInt n n (Nat.le_refl _) (by omega) (by omega) w
  go_enter Try.func27, Try.ntmps27
  go_wp2_with fail
  refine (pathsValid_nil ao c0 n _ (by omega)).mono ?_
  rintro e w' ⟨rfl, rfl⟩
  rw [HIN.out]
  go_wp2_with fail
  refine (runsValid_any b off n c f n _ (by omega) (HC.out.keep (HBB.out _)) (by omega)).mono ?_
  rintro e w' ⟨rfl, rfl⟩
  rw [HR.out]
  go_wp2_with fail
  go_cut [10] (fun s10 wx => RunC w n (runPt t f n).I (runPt t f n).O s10 wx)
  case first =>
    go_region_with (fail)
    all_goals
      go_wp2_with fail
      go_meet
      exact runC_mk (by repeat (with_reducible first | (refine Bx.newAt ?_; simp; done) | refine Bx.alloc ?_ _ | refine Bx.drew ?_))
        (by repeat (with_reducible first | exact Bx.new _ _ _ | refine Bx.alloc ?_ _ | refine Bx.drew ?_))
        (by repeat (with_reducible first | (refine own_fz ?_ (by unfold maxLen; omega); simp; done) | refine Own.alloc ?_ _ | refine Own.drew ?_))
        (by repeat (with_reducible first | (refine own_fz ?_ (by unfold maxLen; omega); simp; done) | refine Own.alloc ?_ _ | refine Own.drew ?_))
        (by repeat (with_reducible first | exact Below.refl _ _ | refine Below.alloc ?_ (by simp <;> omega) _ | refine Below.drew ?_))
        (by omega)
  case rest =>
  obtain ⟨gI, gO, gP, rfl, HM⟩ := hcut
  go_wp2_with fail
  go_loopw [11, 35] (fun s i wr => ∃ k : Nat, k ≤ n ∧ i = .int .i64 k ∧ s = .int .i64 (t + sumTo f k) ∧ RunM w wr gI gO gP n k (runPt t f n).I (runPt t f n).O) (fun _ i _ => n - (intOf i).toNat)
  case atStart => exact ⟨0, Nat.zero_le _, rfl, by simp [sumTo], HM⟩
  case round =>
    obtain ⟨k, hk, rfl, rfl, hm⟩ := hrel
    have HMk := Lib.hid hm
    have hsk := HSUM.out k hk
    by_cases hlt : k < n
    · have hck := (HC.out.keep hm.bl).at k hlt
      have hfk := HF.out k hlt
      have hob := ok_bd HPT.out (k := k) hlt
      have hOe : (runPt t f n).O k = t + sumTo f (k + 1) := rfl
      have hSe : sumTo f (k + 1) = sumTo f k + f k := rfl
      have hle : t + sumTo f k + f k ≤ 2000 := by have := hob.2.2.2; omega
      have HS := Lib.hid hSe
      clear hm hob hOe hSe
      go_wp2_with fail
      refine (pathsFree_nil ao c0 n k (t + sumTo f k) (f k) _ (by omega) (by omega) hfk (by omega)).mono ?_
      rintro e w2 ⟨rfl, hb2⟩
      have HM2 := Lib.hid (HMk.out.below hb2 rfl)
      have hpc := HM2.out.box.cell
      have hiI := HM2.out.oI.cell1 hlt
      have hiO := HM2.out.oO.cell1 hlt
      have hfI := HM2.out.oI.free k
      have hfO := HM2.out.oO.free k
      have n1 := HM2.out.nIO
      have n2 := HM2.out.nIP
      have n3 := HM2.out.nOP
      have n1' : gO ≠ gI := fun e => n1 e.symm
      have n2' : gP ≠ gI := fun e => n2 e.symm
      have n3' : gP ≠ gO := fun e => n3 e.symm
      clear hb2 hck
      go_wp2_with fail
      go_roundw
      case rel => exact ⟨k + 1, by omega, by go_num, by rw [HS.out]; go_num, HM2.out.step rfl (by show _ = t + sumTo f (k + 1); rw [HS.out]; omega)⟩
      case measure => simp [intOf]; omega
    · obtain rfl : k = n := by omega
      have hpc := hm.box.cell
      have hrc := hm.res.cell
      have hrf := hm.res.free
      clear hm
      go_wp2_with fail
      refine bodyPost_ret (v := .tuple #[.agg #[.slice (some ⟨gI, 0, none⟩) k k, .slice (some ⟨gO, 0, none⟩) k k], .bool true]) (by simp [results, Try.results27, go_sem, hrc]) rfl ⟨_, rfl, fun _ => ?_, fun h => absurd h (by simp), (HMk.out.bl.setCell (by dsimp only; omega) _).setCell (by dsimp only; omega) _⟩
      have h1 := HMk.out.lI
      have h2 := HMk.out.lO
      exact ⟨gI, 0, k, gO, 0, k, rfl, IC.of_fz (t := 3) ((HMk.out.oI.setOther (by dsimp only; omega) _).setOther (by dsimp only; omega) _), IC.of_fz (t := 3) ((HMk.out.oO.setOther (by dsimp only; omega) _).setOther (by dsimp only; omega) _)⟩

set_option maxHeartbeats 1000000 in
theorem implPValid_any (v : Value) (p : Pt) (n : Int) (w : World) (hp : PtV w v p) (hni : p.ni ≤ 1000000) (hno : p.no ≤ 1000000) (hn : -9223372036854775808 ≤ n ∧ n ≤ 9223372036854775807) :
    Calls Try.prog 28 #[.int .i64 n, v] w fun e w' => e = .returned (.bool (ptOk p n)) ∧ Below w.heap.size w w' := by
  obtain ⟨bi, oi, ci, bo, oo, co, rfl, hI, hO⟩ := hp
  have HP := Lib.hid (PtV.box (ci := ci) (co := co) (t := 37) hI hO)
  have HBB : Hid (∀ o, Below w.heap.size w (w.alloc o)) := fun o => below_all _ _
  clear hI hO
  go_enter Try.func28, Try.ntmps28
  go_wp2_with fail
  refine (valid_any _ p n bi oi ci bo oo co _ HP.out hni hno hn).mono ?_
  rintro e w' ⟨rfl, q, rfl⟩
  go_wp2_with fail
  go_ret
  exact ⟨rfl, (HBB.out _).trans (below_dr (by repeat (first | exact Dr.refl _ | exact ⟨_, rfl⟩ | refine Dr.drewN ?_ _)) _)⟩
end Go.Proofs.Ytlflkkigagdilaa
