/-
  Walks on paths: runs valid, the program's PathRun.
-/
import Derived.Test.YtlflkkigagdilaaPb
import Derived.Test.YtlflkkigagdilaaBx
import Derived.Deep.RegionWith
import Derived.Deep.DeepCutAuto
namespace Go.Proofs.Ytlflkkigagdilaa
open Go.RowKit

def rvK (f : Nat → Int) (k : Nat) : Bool := inB (f k) 1 100
def rvB (m : Int) (n : Nat) (f : Nat → Int) : Bool := inB m 1 5 && (decide ((n : Int) = m) && allB n (rvK f))
theorem rvB_m {m : Int} {n : Nat} {f : Nat → Int} (h : inB m 1 5 = false) : rvB m n f = false := by simp [rvB, h]
theorem rvB_n {m : Int} {n : Nat} {f : Nat → Int} (h : ¬ (n : Int) = m) : rvB m n f = false := by simp [rvB, h]
theorem rvB_k {m : Int} {n k : Nat} {f : Nat → Int} (hk : k < n) (h : rvK f k = false) : rvB m n f = false := by simp [rvB, allB_not hk h]
theorem rvB_yes {m : Int} {n : Nat} {f : Nat → Int} (h : inB m 1 5 = true) (h1 : (n : Int) = m) (h2 : ∀ k, k < n → rvK f k = true) : rvB m n f = true := by simp [rvB, h, h1, allB_of h2]
theorem rvB_parts {m : Int} {n : Nat} {f : Nat → Int} (h : rvB m n f = true) : (1 ≤ m ∧ m ≤ 5) ∧ (n : Int) = m ∧ ∀ k, k < n → 1 ≤ f k ∧ f k ≤ 100 := by
  simp only [rvB, Bool.and_eq_true, decide_eq_true_eq] at h
  exact ⟨inB_true.1 h.1, h.2.1, fun k hk => inB_true.1 (allB_true.1 h.2.2 k hk)⟩

theorem runsValid_any (b off n c : Nat) (f : Nat → Int) (m : Int) (w : World) (hn : n ≤ 1000000) (hc : IC w b off n f) (hm : -9223372036854775808 ≤ m ∧ m ≤ 9223372036854775807) :
    Calls Try.prog 40 #[.int .i64 m, .slice (some ⟨b, off, none⟩) n c] w fun e w' => e = .returned (.bool (rvB m n f)) ∧ w = w' := by
  have HM := Lib.hid hm
  have HC := Lib.hid hc
  clear hc
  cases hin : inB m 1 5
  · have HI := Lib.hid hin
    clear hin
    go_enter Try.func40, Try.ntmps40
    go_wp2_with fail
    refine (sectionsValid_any m _ HM.out).mono ?_
    rintro e w' ⟨rfl, rfl⟩
    rw [HI.out]
    go_wp2_with fail
    go_ret
    exact ⟨retB (rvB_m HI.out).symm, rfl⟩
  have HI := Lib.hid hin
  clear hin
  by_cases h1 : ¬ (n : Int) = m
  · have HR : Hid (rvB m n f = false) := rvB_n h1
    have g1 : ((n : Int) != m) = true := by simpa using h1
    clear h1
    go_enter Try.func40, Try.ntmps40
    go_wp2_with fail
    refine (sectionsValid_any m _ HM.out).mono ?_
    rintro e w' ⟨rfl, rfl⟩
    rw [HI.out]
    go_wp2_with fail
    go_ret
    exact ⟨retB HR.out.symm, rfl⟩
  obtain rfl : m = (n : Int) := (Decidable.not_not.1 h1).symm
  clear h1
  have gn : ((n : Int) != (n : Int)) = false := by simp
  go_enter Try.func40, Try.ntmps40
  go_wp2_with fail
  refine (sectionsValid_any _ _ HM.out).mono ?_
  rintro e w' ⟨rfl, rfl⟩
  rw [HI.out]
  go_wp2_with fail
  go_loop [18] (fun i => ∃ k : Nat, k ≤ n ∧ i = .int .i64 k ∧ Hid (∀ j, j < k → rvK f j = true)) (fun i => n - (intOf i).toNat)
  case atStart => exact ⟨0, Nat.zero_le _, rfl, fun j hj => by omega⟩
  case round =>
    obtain ⟨k, hk, rfl, HA⟩ := hrel
    by_cases hlt : k < n
    · have hck := HC.out.at k hlt
      by_cases a1 : f k < 1
      · have HF : Hid (rvB n n f = false) := rvB_k hlt (inB_false.2 (by omega))
        go_wp2_with fail
        go_ret
        exact ⟨retB HF.out.symm, rfl⟩
      by_cases a2 : 100 < f k
      · have HF : Hid (rvB n n f = false) := rvB_k hlt (inB_false.2 (by omega))
        go_wp2_with fail
        go_ret
        exact ⟨retB HF.out.symm, rfl⟩
      have HN : Hid (∀ j, j < k + 1 → rvK f j = true) := fun j hj => by
        by_cases e : j = k
        · rw [e]; exact inB_true.2 (by omega)
        · exact HA.out j (by omega)
      go_wp2_with fail
      go_round
      case rel => exact ⟨k + 1, by omega, by go_num, HN⟩
      case measure => simp [intOf]; omega
    · obtain rfl : k = n := by omega
      have HT : Hid (rvB k k f = true) := rvB_yes HI.out rfl HA.out
      go_wp2_with fail
      go_ret
      exact ⟨retB HT.out.symm, rfl⟩

theorem l2Runs_any (b off n c : Nat) (f : Nat → Int) (m : Int) (w : World) (hn : n ≤ 1000000) (hc : IC w b off n f) :
    Calls Try.prog 44 #[.int .i64 m, .slice (some ⟨b, off, none⟩) n c] w fun e w' => e = .returned (.bool (rvB m n f)) ∧ w = w' := by
  have HC := Lib.hid hc
  clear hc
  go_enter Try.func44, Try.ntmps44
  go_wp2_with fail
  go_loop [5] (fun i => ∃ k : Nat, k ≤ n ∧ i = .int .i64 k ∧ Hid (∀ j, j < k → rvK f j = true)) (fun i => n - (intOf i).toNat)
  case atStart => exact ⟨0, Nat.zero_le _, rfl, fun j hj => by omega⟩
  case round =>
    obtain ⟨k, hk, rfl, HA⟩ := hrel
    by_cases hlt : k < n
    · have hck := HC.out.at k hlt
      cases hr : inB (f k) 1 100
      · have HF : Hid (rvB m n f = false) := rvB_k hlt hr
        have HR := Lib.hid hr
        clear hr
        go_wp2_with fail
        refine (l6In_any _ _ _ _).mono ?_
        rintro e w' ⟨rfl, rfl⟩
        rw [HR.out]
        go_wp2_with fail
        go_ret
        exact ⟨retB HF.out.symm, rfl⟩
      · have HN : Hid (∀ j, j < k + 1 → rvK f j = true) := fun j hj => by
          by_cases e : j = k
          · rw [e]; exact hr
          · exact HA.out j (by omega)
        have HR := Lib.hid hr
        clear hr
        go_wp2_with fail
        refine (l6In_any _ _ _ _).mono ?_
        rintro e w' ⟨rfl, rfl⟩
        rw [HR.out]
        go_wp2_with fail
        go_round
        case rel => exact ⟨k + 1, by omega, by go_num, HN⟩
        case measure => simp [intOf]; omega
    · obtain rfl : k = n := by omega
      by_cases h1 : (k : Int) = m
      · have g1 : ((k : Int) == m) = true := by simp [h1]
        have HE : Hid (rvB m k f = inB m 1 5) := by
          show _ = _
          unfold rvB
          rw [allB_of HA.out, decide_eq_true h1]
          simp
        clear h1
        go_wp2_with fail
        refine (l6In_any _ _ _ _).mono ?_
        rintro e w' ⟨rfl, rfl⟩
        rw [← HE.out]
        go_wp2_with fail
        go_ret
        exact ⟨rfl, rfl⟩
      · have g1 : ((k : Int) == m) = false := by simpa using h1
        have HE : Hid (rvB m k f = false) := rvB_n h1
        clear h1
        go_wp2_with fail
        go_ret
        exact ⟨retB HE.out.symm, rfl⟩

/-- the path without standing -/
def runPt (t : Int) (f : Nat → Int) (n : Nat) : Pt := ⟨fun k => t + sumTo f k, n, fun k => t + sumTo f (k + 1), n⟩
def runOk (t : Int) (f : Nat → Int) (n : Nat) : Bool := rvB n n f && (inB t 0 2000 && ptOk (runPt t f n) n)
/-- what PathRun hands back -/
def PtRes (ok : Bool) (p : Pt) (w : World) (e : Ending) (w' : World) : Prop :=
  ∃ v, e = .returned (.tuple #[v, .bool ok]) ∧ (ok = true → PtV w' v p) ∧ (ok = false → v = .agg #[.slice none 0 0, .slice none 0 0]) ∧ Below w.heap.size w w'
theorem runOk_parts {t : Int} {f : Nat → Int} {n : Nat} (h : runOk t f n = true) : rvB n n f = true ∧ (0 ≤ t ∧ t ≤ 2000) ∧ ptOk (runPt t f n) n = true := by
  simp only [runOk, Bool.and_eq_true] at h
  exact ⟨h.1, inB_true.1 h.2.1, h.2.2⟩
theorem sum_run {n : Nat} {f : Nat → Int} (h : ∀ k, k < n → 1 ≤ f k ∧ f k ≤ 100) : ∀ k, k ≤ n → 0 ≤ sumTo f k ∧ sumTo f k ≤ 100 * k
  | 0, _ => by simp [sumTo]
  | k + 1, hk => by
    have ih := sum_run h k (by omega)
    have := h k (by omega)
    simp only [sumTo]
    omega
/-- the first k places filled, the rest zero -/
def fzF (g : Nat → Int) (k : Nat) (i : Nat) : Value := if i < k then .int .i64 (g i) else .int .i64 0
theorem Own.fz {w : World} {g n k : Nat} {t : TypeId} {f : Nat → Int} {v : Int} (h : Own w g n n 1 t (fzF f k)) (hv : v = f k) : Own (w.setCell ⟨g, k, none⟩ (.int .i64 v)) g n n 1 t (fzF f (k + 1)) := by
  refine (h.set k _).congr fun i _ => ?_
  unfold fzF
  by_cases e : i = k
  · subst e; rw [if_pos rfl, if_pos (by omega), hv]
  · rw [if_neg e]
    by_cases h1 : i < k
    · rw [if_pos h1, if_pos (by omega)]
    · rw [if_neg h1, if_neg (by omega)]
theorem IC.of_fz {w : World} {g n : Nat} {t : TypeId} {f : Nat → Int} (h : Own w g n n 1 t (fzF f n)) : IC w g 0 n f := fun k hk => by
  rw [Nat.zero_add, h.cell1 hk]
  exact congrArg some (if_pos hk)
/-- what the loop keeps -/
structure RunM (w wr : World) (gI gO gP n k : Nat) (I O : Nat → Int) : Prop where
  res : Bx wr w.heap.size 37 #[.slice none 0 0, .slice none 0 0]
  box : Bx wr gP 37 #[.slice (some ⟨gI, 0, none⟩) n n, .slice (some ⟨gO, 0, none⟩) n n]
  oI : Own wr gI n n 1 3 (fzF I k)
  oO : Own wr gO n n 1 3 (fzF O k)
  nIO : gI ≠ gO
  nIP : gI ≠ gP
  nOP : gO ≠ gP
  lI : w.heap.size < gI
  lO : w.heap.size < gO
  lP : w.heap.size < gP
  bl : Below w.heap.size w wr
theorem RunM.step {w wr : World} {gI gO gP n k : Nat} {I O : Nat → Int} {a b : Int} (h : RunM w wr gI gO gP n k I O) (ha : a = I k) (hb : b = O k) : RunM w ((wr.setCell ⟨gI, k, none⟩ (.int .i64 a)).setCell ⟨gO, k, none⟩ (.int .i64 b)) gI gO gP n (k + 1) I O := by
  have h1 := h.lI
  have h2 := h.lO
  have h3 := h.nIO
  have h4 := h.nIP
  have h5 := h.nOP
  exact ⟨(h.res.setOther (by dsimp only; omega) _).setOther (by dsimp only; omega) _, (h.box.setOther (by dsimp only; omega) _).setOther (by dsimp only; omega) _, (h.oI.fz ha).setOther (by dsimp only; omega) _,
    (h.oO.setOther (by dsimp only; omega) _).fz hb, h3, h4, h5, h1, h2, h.lP, (h.bl.setCell (by dsimp only; omega) _).setCell (by dsimp only; omega) _⟩
theorem RunM.below {w wr w' : World} {gI gO gP n k B : Nat} {I O : Nat → Int} (h : RunM w wr gI gO gP n k I O) (hb : Below B wr w') (hB : B = wr.heap.size) : RunM w w' gI gO gP n k I O := by
  subst hB
  exact ⟨h.res.below hb h.res.lt, h.box.below hb h.box.lt, h.oI.below hb h.oI.lt, h.oO.below hb h.oO.lt, h.nIO, h.nIP, h.nOP, h.lI, h.lO, h.lP, h.bl.trans (hb.mono h.bl.size)⟩
theorem RunM.ptb {w wr : World} {gI gO gP n : Nat} {I O : Nat → Int} (h : RunM w wr gI gO gP n n I O) : PtB wr gP ⟨I, n, O, n⟩ gI 0 n gO 0 n := by
  have hc := h.box.cell
  exact ⟨(hc 0).trans rfl, (hc 1).trans rfl, IC.of_fz h.oI, IC.of_fz h.oO⟩
theorem own_fz {w : World} {g n : Nat} {t : TypeId} {f : Nat → Int} (hg : g = w.heap.size) (hn : n ≤ maxLen) : Own (w.alloc (.cells (madeCells #[.int .i64 0] n) t)) g n n 1 t (fzF f 0) := by
  subst hg
  exact (own_full1 w (.int .i64 0) n t hn).congr fun i _ => by unfold fzF; rw [if_neg (by omega)]
/-- the path's box and rows behind the making, in whatever order -/
def RunC (w : World) (n : Nat) (I O : Nat → Int) (s : Value) (wx : World) : Prop := ∃ gI gO gP, s = .pointer (some ⟨gP, 0, none⟩) ∧ RunM w wx gI gO gP n 0 I O
theorem runC_mk {w wx : World} {gI gO gP n : Nat} {I O : Nat → Int} (box : Bx wx gP 37 #[.slice (some ⟨gI, 0, none⟩) n n, .slice (some ⟨gO, 0, none⟩) n n]) (res : Bx wx w.heap.size 37 #[.slice none 0 0, .slice none 0 0])
    (oI : Own wx gI n n 1 3 (fzF I 0)) (oO : Own wx gO n n 1 3 (fzF O 0)) (bl : Below w.heap.size w wx)
    (h : gI ≠ gO ∧ gI ≠ gP ∧ gO ≠ gP ∧ w.heap.size < gI ∧ w.heap.size < gO ∧ w.heap.size < gP) : RunC w n I O (.pointer (some ⟨gP, 0, none⟩)) wx :=
  ⟨gI, gO, gP, rfl, res, box, oI, oO, h.1, h.2.1, h.2.2.1, h.2.2.2.1, h.2.2.2.2.1, h.2.2.2.2.2, bl⟩
def zPt : Value := .agg #[.slice none 0 0, .slice none 0 0]

set_option maxHeartbeats 2000000 in
theorem implRun_any (t : Int) (b off n c : Nat) (f : Nat → Int) (w : World) (hn : n ≤ 1000000) (hc : IC w b off n f) (ht : -9223372036854775808 ≤ t ∧ t ≤ 9223372036854775807) :
    Calls Try.prog 20 #[.int .i64 t, .slice (some ⟨b, off, none⟩) n c] w (PtRes (runOk t f n) (runPt t f n) w) := by
  have HC := Lib.hid hc
  have HBB : Hid (∀ o, Below w.heap.size w (w.alloc o)) := fun o => below_all _ _
  clear hc
  cases hr : rvB n n f
  · have HR := Lib.hid hr
    have HK : Hid (runOk t f n = false) := by show _ = _; unfold runOk; rw [hr]; rfl
    clear hr
    go_enter Try.func20, Try.ntmps20
    go_wp2_with fail
    refine (runsValid_any b off n c f n _ (by omega) (HC.out.keep (HBB.out _)) (by omega)).mono ?_
    rintro e w' ⟨rfl, rfl⟩
    rw [HR.out]
    go_wp2_with fail
    refine bodyPost_ret (v := .tuple #[.agg #[.slice none 0 0, .slice none 0 0], .bool false]) (by simp [results, Try.results20, go_sem]) rfl ⟨_, by rw [HK.out], fun h => absurd (HK.out.symm.trans h) (by simp), fun _ => rfl, HBB.out _⟩
  have HR := Lib.hid hr
  by_cases ht1 : t < 0
  · have HK : Hid (runOk t f n = false) := by show _ = _; unfold runOk; rw [inB_false.2 (show ¬ (0 ≤ t ∧ t ≤ 2000) by omega)]; simp
    clear hr
    go_enter Try.func20, Try.ntmps20
    go_wp2_with fail
    refine (runsValid_any b off n c f n _ (by omega) (HC.out.keep (HBB.out _)) (by omega)).mono ?_
    rintro e w' ⟨rfl, rfl⟩
    rw [HR.out]
    go_wp2_with fail
    refine bodyPost_ret (v := .tuple #[.agg #[.slice none 0 0, .slice none 0 0], .bool false]) (by simp [results, Try.results20, go_sem]) rfl ⟨_, by rw [HK.out], fun h => absurd (HK.out.symm.trans h) (by simp), fun _ => rfl, HBB.out _⟩
  by_cases ht2 : 2000 < t
  · have HK : Hid (runOk t f n = false) := by show _ = _; unfold runOk; rw [inB_false.2 (show ¬ (0 ≤ t ∧ t ≤ 2000) by omega)]; simp
    clear hr
    go_enter Try.func20, Try.ntmps20
    go_wp2_with fail
    refine (runsValid_any b off n c f n _ (by omega) (HC.out.keep (HBB.out _)) (by omega)).mono ?_
    rintro e w' ⟨rfl, rfl⟩
    rw [HR.out]
    go_wp2_with fail
    refine bodyPost_ret (v := .tuple #[.agg #[.slice none 0 0, .slice none 0 0], .bool false]) (by simp [results, Try.results20, go_sem]) rfl ⟨_, by rw [HK.out], fun h => absurd (HK.out.symm.trans h) (by simp), fun _ => rfl, HBB.out _⟩
  have hpt := rvB_parts hr
  have hsum := sum_run hpt.2.2
  have HSUM := Lib.hid hsum
  have HF := Lib.hid hpt.2.2
  obtain ⟨⟨hn1, hn2⟩, _, _⟩ := hpt
  have HK : Hid (runOk t f n = ptOk (runPt t f n) n) := by show _ = _; unfold runOk; rw [hr, inB_true.2 (show 0 ≤ t ∧ t ≤ 2000 by omega)]; simp
  clear hr hsum
  have hmk := fun w => run_mk elInt n n (Nat.le_refl _) (by omega) (by omega) w
  go_enter Try.func20, Try.ntmps20
  go_wp2_with fail
  refine (runsValid_any b off n c f n _ (by omega) (HC.out.keep (HBB.out _)) (by omega)).mono ?_
  rintro e w' ⟨rfl, rfl⟩
  rw [HR.out]
  go_wp2_with fail
  go_cut [7] (fun s7 wx => RunC w n (runPt t f n).I (runPt t f n).O s7 wx)
  case first =>
    go_region_with (fail)
    all_goals
      go_wp2_with fail
      go_meet
      exact runC_mk (by repeat (with_reducible first | (refine Bx.newAt ?_; simp; done) | refine Bx.alloc ?_ _ | refine Bx.drew ?_))
        (by repeat (with_reducible first | exact Bx.new _ _ _ | refine Bx.alloc ?_ _ | refine Bx.drew ?_))
        (by repeat (with_reducible first | (refine own_fz ?_ (by unfold maxLen; omega); simp; done) | refine Own.alloc ?_ _ | refine Own.drew ?_))
        (by repeat (with_reducible first | (refine own_fz ?_ (by unfold maxLen; omega); simp; done) | refine Own.alloc ?_ _ | refine Own.drew ?_))
        (by repeat (with_reducible first | exact Below.refl _ _ | refine Below.alloc ?_ (by simp <;> omega) _ | refine Below.drew ?_))
        (by omega)
  case rest =>
  obtain ⟨gI, gO, gP, rfl, HM⟩ := hcut
  go_wp2_with fail
  go_loopw [8, 34] (fun s i wr => ∃ k : Nat, k ≤ n ∧ i = .int .i64 k ∧ s = .int .i64 (t + sumTo f k) ∧ RunM w wr gI gO gP n k (runPt t f n).I (runPt t f n).O) (fun _ i _ => n - (intOf i).toNat)
  case atStart => exact ⟨0, Nat.zero_le _, rfl, by simp [sumTo], HM⟩
  case round =>
    obtain ⟨k, hk, rfl, rfl, hm⟩ := hrel
    have HMk := Lib.hid hm
    have hpc := hm.box.cell
    have hsk := HSUM.out k hk
    by_cases hlt : k < n
    · have hck := (HC.out.keep hm.bl).at k hlt
      have hfk := HF.out k hlt
      have hiI := hm.oI.cell1 hlt
      have hiO := hm.oO.cell1 hlt
      have hfI := hm.oI.free k
      have hfO := hm.oO.free k
      have n1 := hm.nIO
      have n2 := hm.nIP
      have n3 := hm.nOP
      have n1' : gO ≠ gI := fun e => n1 e.symm
      have n2' : gP ≠ gI := fun e => n2 e.symm
      have n3' : gP ≠ gO := fun e => n3 e.symm
      have HS : Hid (sumTo f (k + 1) = sumTo f k + f k) := rfl
      clear hm
      go_wp2_with fail
      go_roundw
      case rel => exact ⟨k + 1, by omega, by go_num, by rw [HS.out]; go_num, HMk.out.step rfl (by show _ = t + sumTo f (k + 1); rw [HS.out]; omega)⟩
      case measure => simp [intOf]; omega
    · obtain rfl : k = n := by omega
      clear hm
      go_wp2_with fail
      refine (valid_any gP (runPt t f k) k gI 0 k gO 0 k _ HMk.out.ptb (by show k ≤ _; omega) (by show k ≤ _; omega) (by omega)).mono ?_
      rintro e w2 ⟨rfl, q2, rfl⟩
      rw [← HK.out]
      have hrc := HMk.out.res.cell
      have hrf := HMk.out.res.free
      have HBL := Lib.hid ((HMk.out.below (below_drewN (Below.refl _ _) q2) rfl).bl)
      have HPV : Hid (∀ u v : Value, PtV (((wr.drewN q2).setCell ⟨w.heap.size, 0, none⟩ u).setCell ⟨w.heap.size, 1, none⟩ v) (.agg #[.slice (some ⟨gI, 0, none⟩) k k, .slice (some ⟨gO, 0, none⟩) k k]) (runPt t f k)) := fun u v => by
        have h1 := HMk.out.lI
        have h2 := HMk.out.lO
        exact ⟨gI, 0, k, gO, 0, k, rfl, IC.of_fz (t := 3) (((HMk.out.oI.drewN q2).setOther (by dsimp only; omega) u).setOther (by dsimp only; omega) v), IC.of_fz (t := 3) (((HMk.out.oO.drewN q2).setOther (by dsimp only; omega) u).setOther (by dsimp only; omega) v)⟩
      cases hok : runOk t f k
      · have HO := Lib.hid hok
        clear hok
        go_wp2_with fail
        exact bodyPost_ret (v := .tuple #[.agg #[.slice none 0 0, .slice none 0 0], .bool false]) (by simp [results, Try.results20, go_sem, hrc]) rfl ⟨_, by rw [HO.out], fun h => absurd (HO.out.symm.trans h) (by simp), fun _ => rfl, (HBL.out.setCell (by dsimp only; omega) _).setCell (by dsimp only; omega) _⟩
      · have HO := Lib.hid hok
        clear hok
        go_wp2_with fail
        exact bodyPost_ret (v := .tuple #[.agg #[.slice (some ⟨gI, 0, none⟩) k k, .slice (some ⟨gO, 0, none⟩) k k], .bool true]) (by simp [results, Try.results20, go_sem, hrc]) rfl ⟨_, by rw [HO.out], fun _ => HPV.out _ _, fun h => absurd (HO.out.symm.trans h) (by simp), (HBL.out.setCell (by dsimp only; omega) _).setCell (by dsimp only; omega) _⟩
end Go.Proofs.Ytlflkkigagdilaa
