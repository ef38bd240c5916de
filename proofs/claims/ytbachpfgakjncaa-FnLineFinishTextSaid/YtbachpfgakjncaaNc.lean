/-
  The walks of the reference's l4Left and LineLeft.
-/
import Derived.Test.YtbachpfgakjncaaLw
import Derived.Test.YtbachpfgakjncaaSd
namespace Go.Proofs.Ytbachpfgakjncaa
open Go.RowKit

theorem leA_le' (f : Nat → Int) (p : Int) : ∀ m, leA f p m ≤ m
  | 0 => Nat.le_refl _
  | m + 1 => by
    have := leA_le' f p m
    simp only [leA]
    split <;> omega
set_option linter.unusedSimpArgs false in
set_option maxRecDepth 100000 in
set_option maxHeartbeats 4000000 in
theorem l4Left_any (bb bo cb tb tu ct : Nat) (x : Ln) (k s : Nat) (w : World) (hk : k < x.n) (hn : x.n ≤ 1000000) (hm : x.m ≤ 1000000) (hs : s < 5) (hN : x.N k = (stB s).n ∧ x.I k = (stB s).i ∧ x.O k = (stB s).o) (hbk : BkC w bb bo x.n x.N x.I x.O) (hic : IC w tb tu x.m x.T) :
    Calls Try.prog 72 #[.agg #[.slice (some ⟨bb, bo, none⟩) x.n cb, .slice (some ⟨tb, tu, none⟩) x.m ct], .int .i64 k] w fun e w' => e = .returned (.int .i64 (lefK s (tk x k))) ∧ Below w.heap.size w w' := by
  have HM0 : Hid (VdM w (w.alloc (.cells #[.slice (some ⟨bb, bo, none⟩) x.n cb, .slice (some ⟨tb, tu, none⟩) x.m ct] 26)) (.slice (some ⟨bb, bo, none⟩) x.n cb) (.slice (some ⟨tb, tu, none⟩) x.m ct)) := ⟨Bx.new _ _ _, below_all _ _⟩
  have HKB : Hid (BkC (w.alloc (.cells #[.slice (some ⟨bb, bo, none⟩) x.n cb, .slice (some ⟨tb, tu, none⟩) x.m ct] 26)) bb bo x.n x.N x.I x.O) := hbk.keep (below_all _ _)
  have HKT : Hid (IC (w.alloc (.cells #[.slice (some ⟨bb, bo, none⟩) x.n cb, .slice (some ⟨tb, tu, none⟩) x.m ct] 26)) tb tu x.m x.T) := hic.keep (below_all _ _)
  have HS := Lib.hid hN
  clear hbk hic hN
  go_enter Try.func72, Try.ntmps72
  have hac := HM0.out.box.cell
  go_wp2_with fail
  clear hac
  generalize w.alloc (.cells #[.slice (some ⟨bb, bo, none⟩) x.n cb, .slice (some ⟨tb, tu, none⟩) x.m ct] 26) = wr at *
  have hac := HM0.out.box.cell
  go_loop [5, 6] (fun t i => ∃ j : Nat, j ≤ x.m ∧ i = .int .i64 j ∧ t = .int .i64 (leA x.T (2 * k) j)) (fun _ i => x.m - (intOf i).toNat)
  case atStart => exact ⟨0, Nat.zero_le _, rfl, rfl⟩
  case round =>
    obtain ⟨j, hj, rfl, rfl⟩ := hrel
    have hle := leA_le' x.T (2 * k) j
    by_cases hjt : j < x.m
    · have hcj := HKT.out.at j hjt
      by_cases h1 : x.T j ≤ 2 * k
      · have HE : Hid (leA x.T (2 * k) (j + 1) = leA x.T (2 * k) j + 1) := by show _ = _; simp [leA, h1]
        go_wp2_with fail
        go_round
        case rel => exact ⟨j + 1, by omega, by go_num, by rw [HE.out]; go_num⟩
        case measure => simp [intOf]; omega
      · have HE : Hid (leA x.T (2 * k) (j + 1) = leA x.T (2 * k) j) := by show _ = _; simp [leA, h1]
        go_wp2_with fail
        go_round
        case rel => exact ⟨j + 1, by omega, by go_num, by rw [HE.out]⟩
        case measure => simp [intOf]; omega
    · obtain rfl : j = x.m := by omega
      have HT : Hid (tk x k = leA x.T (2 * k) x.m) := rfl
      obtain ⟨c0, c1, c2⟩ := HKB.out.at k hk
      obtain ⟨e0, e1, e2⟩ := HS.out
      rw [e0] at c0
      rw [e1] at c1
      rw [e2] at c2
      clear e0 e1 e2 HS
      revert hle HT
      generalize leA x.T (2 * k) x.m = t
      intro hle HT
      match hse : s, hs with
      | 0, _ =>
        (have h0 : wr.cell? ⟨bb, bo + k * 3, none⟩ = some (.int .i64 (stB 0).n) := c0)
        (have h1 : wr.cell? ⟨bb, bo + k * 3 + 1, none⟩ = some (.bool (stB 0).i) := c1)
        (have h2 : wr.cell? ⟨bb, bo + k * 3 + 2, none⟩ = some (.bool (stB 0).o) := c2)
        simp only [stB] at h0 h1 h2
        have HSE := Lib.hid hse
        clear c0 c1 c2 hse
        go_wp2_with fail
        go_ret
        exact ⟨by rw [HT.out, HSE.out]; simp [lefK, *], HM0.out.bl.alloc HM0.out.bl.size _⟩
      | 1, _ =>
        (have h0 : wr.cell? ⟨bb, bo + k * 3, none⟩ = some (.int .i64 (stB 1).n) := c0)
        (have h1 : wr.cell? ⟨bb, bo + k * 3 + 1, none⟩ = some (.bool (stB 1).i) := c1)
        (have h2 : wr.cell? ⟨bb, bo + k * 3 + 2, none⟩ = some (.bool (stB 1).o) := c2)
        simp only [stB] at h0 h1 h2
        have HSE := Lib.hid hse
        clear c0 c1 c2 hse
        rcases Nat.eq_zero_or_pos t with h0 | h0
        · subst h0
          go_wp2_with fail
          go_ret
          exact ⟨by rw [HT.out, HSE.out]; simp [lefK, *], HM0.out.bl.alloc HM0.out.bl.size _⟩
        · go_wp2_with fail
          go_ret
          exact ⟨by rw [HT.out, HSE.out]; simp [lefK, *], HM0.out.bl.alloc HM0.out.bl.size _⟩
      | 2, _ =>
        (have h0 : wr.cell? ⟨bb, bo + k * 3, none⟩ = some (.int .i64 (stB 2).n) := c0)
        (have h1 : wr.cell? ⟨bb, bo + k * 3 + 1, none⟩ = some (.bool (stB 2).i) := c1)
        (have h2 : wr.cell? ⟨bb, bo + k * 3 + 2, none⟩ = some (.bool (stB 2).o) := c2)
        simp only [stB] at h0 h1 h2
        have HSE := Lib.hid hse
        clear c0 c1 c2 hse
        rcases Nat.eq_zero_or_pos t with h0 | h0
        · subst h0
          go_wp2_with fail
          go_ret
          exact ⟨by rw [HT.out, HSE.out]; simp [lefK, *], HM0.out.bl.alloc HM0.out.bl.size _⟩
        · go_wp2_with fail
          go_ret
          exact ⟨by rw [HT.out, HSE.out]; simp [lefK, *], HM0.out.bl.alloc HM0.out.bl.size _⟩
      | 3, _ =>
        (have h0 : wr.cell? ⟨bb, bo + k * 3, none⟩ = some (.int .i64 (stB 3).n) := c0)
        (have h1 : wr.cell? ⟨bb, bo + k * 3 + 1, none⟩ = some (.bool (stB 3).i) := c1)
        (have h2 : wr.cell? ⟨bb, bo + k * 3 + 2, none⟩ = some (.bool (stB 3).o) := c2)
        simp only [stB] at h0 h1 h2
        have HSE := Lib.hid hse
        clear c0 c1 c2 hse
        go_wp2_with fail
        go_ret
        exact ⟨by rw [HT.out, HSE.out]; simp [lefK, *], HM0.out.bl.alloc HM0.out.bl.size _⟩
      | 4, _ =>
        (have h0 : wr.cell? ⟨bb, bo + k * 3, none⟩ = some (.int .i64 (stB 4).n) := c0)
        (have h1 : wr.cell? ⟨bb, bo + k * 3 + 1, none⟩ = some (.bool (stB 4).i) := c1)
        (have h2 : wr.cell? ⟨bb, bo + k * 3 + 2, none⟩ = some (.bool (stB 4).o) := c2)
        simp only [stB] at h0 h1 h2
        have HSE := Lib.hid hse
        clear c0 c1 c2 hse
        go_wp2_with fail
        go_ret
        exact ⟨by rw [HT.out, HSE.out]; simp [lefK, *], HM0.out.bl.alloc HM0.out.bl.size _⟩
set_option linter.unusedSimpArgs false in
set_option maxRecDepth 100000 in
set_option maxHeartbeats 4000000 in
theorem specLineLeft_any (bb bo cb tb tu ct : Nat) (x : Ln) (w : World) (hv : vldL x = true) (hbk : BkC w bb bo x.n x.N x.I x.O) (hic : IC w tb tu x.m x.T) :
    Calls Try.prog 33 #[.agg #[.slice (some ⟨bb, bo, none⟩) x.n cb, .slice (some ⟨tb, tu, none⟩) x.m ct]] w fun e w' => e = .returned (.int .i64 (lefS x x.n)) ∧ Below w.heap.size w w' := by
  have HM0 : Hid (VdM w (w.alloc (.cells #[.slice (some ⟨bb, bo, none⟩) x.n cb, .slice (some ⟨tb, tu, none⟩) x.m ct] 26)) (.slice (some ⟨bb, bo, none⟩) x.n cb) (.slice (some ⟨tb, tu, none⟩) x.m ct)) := ⟨Bx.new _ _ _, below_all _ _⟩
  have hvl := vldL_true hv
  have hn5 : x.n ≤ 5 := hvl.2.1
  have hm5 : x.m ≤ 5 := hvl.2.2.1
  have HLV : Hid (∀ W, Below w.heap.size w W → Calls Try.prog 49 #[.agg #[.slice (some ⟨bb, bo, none⟩) x.n cb, .slice (some ⟨tb, tu, none⟩) x.m ct]] W fun e w' => e = .returned (.bool true) ∧ Below W.heap.size W w') := fun W hb => by
    have h := specLineValid_any bb bo cb tb tu ct x W (by omega) (by omega) (hbk.keep hb) (hic.keep hb)
    rw [hv] at h
    exact h
  have HLL : Hid (∀ W k, k < x.n → Below w.heap.size w W → Calls Try.prog 72 #[.agg #[.slice (some ⟨bb, bo, none⟩) x.n cb, .slice (some ⟨tb, tu, none⟩) x.m ct], .int .i64 k] W fun e w' => e = .returned (.int .i64 (lefK (sk x k) (tk x k))) ∧ Below W.heap.size W w') := fun W k hk hb => by
    have h5 := sk_lt hv hk
    have hB := stI_B (n := x.N k) (i := x.I k) (o := x.O k) rfl h5
    exact l4Left_any bb bo cb tb tu ct x k (sk x k) W hk (by omega) (by omega) h5 hB (hbk.keep hb) (hic.keep hb)
  have HST : Hid (∀ k, k ≤ x.n → lefS x k = lefT x k) := lefS_T hv
  have HBD : Hid (∀ k, lefS x k ≤ k * (5 * x.m + 2) ∧ 0 ≤ lefS x k) := fun k => ⟨(lefS_bd x k).2, (lefS_bd x k).1⟩
  clear hbk hic hv hvl
  go_enter Try.func33, Try.ntmps33
  have hac := HM0.out.box.cell
  go_wp2_with fail
  clear hac
  refine (HLV.out _ HM0.out.bl).mono ?_
  rintro e w1 ⟨rfl, hb⟩
  have HM1 := Lib.hid (HM0.out.below hb rfl)
  have hac := HM1.out.box.cell
  clear hb
  go_wp2_with fail
  clear hac HM0
  go_loopw [3, 4] (fun s i wr => ∃ k : Nat, k ≤ x.n ∧ i = .int .i64 k ∧ s = .int .i64 (lefS x k) ∧ Hid (VdM w wr (.slice (some ⟨bb, bo, none⟩) x.n cb) (.slice (some ⟨tb, tu, none⟩) x.m ct))) (fun _ i _ => x.n - (intOf i).toNat)
  case atStart => exact ⟨0, Nat.zero_le _, rfl, rfl, HM1⟩
  case round =>
    obtain ⟨k, hk, rfl, rfl, HM⟩ := hrel
    have hac := HM.out.box.cell
    by_cases hlt : k < x.n
    · have HC := Lib.hid (HLL.out wr k hlt HM.out.bl)
      have hb0 : 0 ≤ lefS x k ∧ lefS x k ≤ 1000 := by
        have h := HBD.out k
        have h3 : k * (5 * x.m + 2) ≤ 5 * 27 := Nat.mul_le_mul (by omega) (by omega)
        have h4 : ((k * (5 * x.m + 2) : Nat) : Int) = (k : Int) * (5 * (x.m : Int) + 2) := by simp
        omega
      have hb1 : 0 ≤ lefK (sk x k) (tk x k) ∧ lefK (sk x k) (tk x k) ≤ 1000 := by
        have h1 := leA_le' x.T (2 * k) x.m
        have h2 : tk x k ≤ 5 := by unfold tk; omega
        revert h2
        generalize tk x k = t
        generalize sk x k = s
        intro h2
        unfold lefK
        split <;> (try split) <;> omega
      have HE : Hid (lefS x (k + 1) = lefS x k + lefK (sk x k) (tk x k)) := by
        show _ = _
        rw [HST.out (k + 1) (by omega), HST.out k (by omega)]
        rfl
      go_wp2_with fail
      refine HC.out.mono ?_
      rintro e w2 ⟨rfl, hb⟩
      have HM2 := Lib.hid (HM.out.below hb rfl)
      clear hb
      go_wp2_with fail
      go_roundw
      case rel => exact ⟨k + 1, by omega, by go_num, by rw [HE.out], HM2⟩
      case measure => simp [intOf]; omega
    · obtain e : k = x.n := by omega
      subst e
      go_wp2_with fail
      go_ret
      exact ⟨rfl, HM.out.bl⟩
end Go.Proofs.Ytbachpfgakjncaa
