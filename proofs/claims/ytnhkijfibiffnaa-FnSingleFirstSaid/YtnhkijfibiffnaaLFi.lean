/-
  The law FnSingleFirst: plain, and the walk.
-/
import Derived.Test.YtnhkijfibiffnaaLWa
import Derived.Test.YtnhkijfibiffnaaLEn
import Derived.Test.YtnhkijfibiffnaaFr
namespace Go.Proofs.Ytnhkijfibiffnaa
open Go.RowKit

theorem goA_true {x : Sg} {a b : Nat} : goA x a b = true ↔ b = x.nb ∨ (a < x.na ∧ x.A a ≤ x.B b) := by simp [goA]
theorem frL_at (x : Sg) : ∀ n a b k, k < n → (ltr (frL x n a b) k = 85 ↔ goA x (a + cntU (ltr (frL x n a b)) k) (b + (k - cntU (ltr (frL x n a b)) k)) = true)
  | 0, _, _, _, hk => by omega
  | n + 1, a, b, k, hk => by
    cases hg : goA x a b
    · rw [frL_D hg]
      cases k with
      | zero => simp [ltr_zero, cntU, hg]
      | succ k =>
        have hle := cntU_le (ltr (frL x n a (b + 1))) k
        rw [ltr_succ, cntU_shift, ltr_cons, ltr_zero, if_neg (by decide), frL_at x n a (b + 1) k (by omega), Nat.zero_add, show b + (k + 1 - cntU (ltr (frL x n a (b + 1))) k) = b + 1 + (k - cntU (ltr (frL x n a (b + 1))) k) from by omega]
    · rw [frL_U hg]
      cases k with
      | zero => simp [ltr_zero, cntU, hg]
      | succ k =>
        have hle := cntU_le (ltr (frL x n (a + 1) b)) k
        rw [ltr_succ, cntU_shift, ltr_cons, ltr_zero, if_pos (by decide), frL_at x n (a + 1) b k (by omega), show a + (1 + cntU (ltr (frL x n (a + 1) b)) k) = a + 1 + cntU (ltr (frL x n (a + 1) b)) k from by omega, show k + 1 - (1 + cntU (ltr (frL x n (a + 1) b)) k) = k - cntU (ltr (frL x n (a + 1) b)) k from by omega]
theorem frL_ord (x : Sg) : ∀ n a b, n = (x.na - a) + (x.nb - b) → a ≤ x.na → b ≤ x.nb → ordL (frL x n a b) (x.na - a) (x.nb - b) = true
  | 0, a, b, hn, ha, hb => by
    rw [show x.na - a = 0 from by omega, show x.nb - b = 0 from by omega]
    rfl
  | n + 1, a, b, hn, ha, hb => by
    cases hg : goA x a b
    · rw [frL_D hg]
      have hbn : ¬ b = x.nb := fun e => by
        have := goA_true.2 (Or.inl e : b = x.nb ∨ (a < x.na ∧ x.A a ≤ x.B b))
        rw [hg] at this; cases this
      refine ordL_D (by omega) ?_
      rw [show x.nb - b - 1 = x.nb - (b + 1) from by omega]
      exact frL_ord x n a (b + 1) (by omega) ha (by omega)
    · rw [frL_U hg]
      have h1 := goA_true.1 hg
      have han : a < x.na := by
        rcases h1 with h | h
        · omega
        · exact h.1
      refine ordL_U (by omega) ?_
      rw [show x.na - a - 1 = x.na - (a + 1) from by omega]
      exact frL_ord x n (a + 1) b (by omega) (by omega) hb
theorem first_ord {x : Sg} (hs : sgOk x = true) : ordOk x (firstS x) = true := by
  rw [firstS_yes hs, ordOk_L]
  exact frL_ord x _ 0 0 rfl (Nat.zero_le _) (Nat.zero_le _)
theorem first_size {x : Sg} (hs : sgOk x = true) : (firstS x).size = x.na + x.nb := (ordOk_true.1 (first_ord hs)).2.2
theorem first_go {x : Sg} (hs : sgOk x = true) {k : Nat} (hk : k < (firstS x).size) : bt (firstS x) k = 85 ↔ goA x (cntU (bt (firstS x)) k) (k - cntU (bt (firstS x)) k) = true := by
  have hsz := first_size hs
  rw [firstS_yes hs, bt_strOf]
  have := frL_at x (x.na + x.nb) 0 0 k (by omega)
  rw [Nat.zero_add, Nat.zero_add] at this
  exact this
theorem sort_le {n : Nat} {f : Nat → Int} (h : rdy n f = true) (j : Nat) : ∀ k, j ≤ k → k < n → f j ≤ f k := by
  intro k
  induction k with
  | zero => intro hj _; obtain rfl : j = 0 := by omega
            exact Int.le_refl _
  | succ k ih =>
    intro hj hk
    by_cases e : j = k + 1
    · subst e; exact Int.le_refl _
    · have h1 := ih (by omega) (by omega)
      have h2 := rdy_sorted h k hk
      omega
theorem sg_rdy {x : Sg} (hs : sgOk x = true) : rdy x.na x.A = true ∧ rdy x.nb x.B = true := by
  simp only [sgOk, Bool.and_eq_true] at hs
  exact ⟨hs.1, hs.2.1⟩
theorem first_bound {x : Sg} (hs : sgOk x = true) {k : Nat} (hk : k < (firstS x).size) :
    (∀ i, cntU (bt (firstS x)) k ≤ i → i < x.na → rdT x (bt (firstS x)) k ≤ x.A i) ∧ (∀ j, k - cntU (bt (firstS x)) k ≤ j → j < x.nb → rdT x (bt (firstS x)) k ≤ x.B j) := by
  have hr := sg_rdy hs
  have hp := ord_places (first_ord hs) k hk
  have hg := first_go hs hk
  by_cases hU : bt (firstS x) k = 85
  · rw [rdT_U hU]
    have h1 := goA_true.1 (hg.1 hU)
    refine ⟨fun i hi hin => sort_le hr.1 _ _ hi hin, fun j hj hjn => ?_⟩
    have h2 := sort_le hr.2 _ _ hj hjn
    rcases h1 with h | h
    · omega
    · omega
  · rw [rdT_D hU]
    refine ⟨fun i hi hin => ?_, fun j hj hjn => sort_le hr.2 _ _ hj hjn⟩
    have h2 := sort_le hr.1 _ _ hi hin
    have h3 : ¬ x.A (cntU (bt (firstS x)) k) ≤ x.B (k - cntU (bt (firstS x)) k) := fun h => hU (hg.2 (goA_true.2 (Or.inr ⟨by omega, h⟩)))
    omega
theorem first_sorted {x : Sg} (hs : sgOk x = true) {k : Nat} (hk : k + 1 < (firstS x).size) : rdT x (bt (firstS x)) k ≤ rdT x (bt (firstS x)) (k + 1) := by
  have hb := first_bound hs (show k < (firstS x).size by omega)
  have hp := ord_places (first_ord hs) (k + 1) hk
  have hc := cntU_le (bt (firstS x)) k
  have hc1 := cntU_mono (bt (firstS x)) k (k + 1) (by omega)
  have hc2 : cntU (bt (firstS x)) (k + 1) ≤ cntU (bt (firstS x)) k + 1 := by simp only [cntU]; split <;> omega
  by_cases hU : bt (firstS x) (k + 1) = 85
  · rw [rdT_U hU]
    exact hb.1 _ hc1 (hp.1 hU)
  · rw [rdT_D hU]
    exact hb.2 _ (by omega) (hp.2 hU)
/-- the ready time ahead -/
def lstT (x : Sg) (c : Nat → Int) : Nat → Int
  | 0 => 0
  | k + 1 => rdT x c k
theorem first_last {x : Sg} (hs : sgOk x = true) {k : Nat} (hk : k < (firstS x).size) : lstT x (bt (firstS x)) k ≤ rdT x (bt (firstS x)) k := by
  cases k with
  | zero => exact (rdT_bd (sgOk_bd hs) (first_ord hs) 0 hk).1
  | succ k => exact first_sorted hs hk
/-- the line with one gap -/
def runSg (x : Sg) : Sg := ⟨x.A, x.na, x.B, x.nb, x.run, x.run⟩
theorem run_rd (x : Sg) (c : Nat → Int) (k : Nat) : rdT (runSg x) c k = rdT x c k := rfl
theorem run_gap (x : Sg) (c : Nat → Int) (k : Nat) : gapT (runSg x) c k = x.run := by unfold gapT; split <;> rfl
theorem run_ok {x : Sg} (h : sgOk x = true) : sgOk (runSg x) = true := by
  have hx := sgOk_bd h
  simp only [sgOk, Bool.and_eq_true] at h
  show (rdy x.na x.A && (rdy x.nb x.B && (inB x.run 1 100 && inB x.run 1 x.run))) = true
  rw [h.1, h.2.1, h.2.2.1, inB_true.2 ⟨hx.run.1, Int.le_refl _⟩]
  rfl
theorem first_rd {x : Sg} {s : ByteArray} (hs : sgOk x = true) (ho : ordOk x s = true) {k : Nat} (hk : k < s.size) : rdT x (bt (firstS x)) k ≤ stT (runSg x) (bt s) k := by
  have hsz := (ordOk_true.1 ho).2.2
  have hfz := first_size hs
  have hb := first_bound hs (show k < (firstS x).size by omega)
  have hx := sgOk_bd (run_ok hs)
  have hc := cntU_le (bt s) (k + 1)
  have hcf := cntU_le (bt (firstS x)) k
  by_cases hA : cntU (bt (firstS x)) k < cntU (bt s) (k + 1)
  · obtain ⟨p, hp, hU, hpi⟩ := find_U (bt s) _ (k + 1) hA
    have h1 := ord_places ho p (by omega)
    have h2 := hb.1 (cntU (bt s) p) (by omega) (h1.1 hU)
    have h3 := rd_le_st (runSg x) (bt s) p
    have h4 := st_mono (c := bt s) hx p k (by omega)
    rw [rdT_U hU] at h3
    have h5 : (runSg x).A (cntU (bt s) p) = x.A (cntU (bt s) p) := rfl
    omega
  · obtain ⟨p, hp, hU, hpi⟩ := find_D (bt s) (k - cntU (bt (firstS x)) k) (k + 1) (by omega)
    have h1 := ord_places ho p (by omega)
    have h2 := hb.2 (p - cntU (bt s) p) (by omega) (h1.2 hU)
    have h3 := rd_le_st (runSg x) (bt s) p
    have h4 := st_mono (c := bt s) hx p k (by omega)
    rw [rdT_D hU] at h3
    have h5 : (runSg x).B (p - cntU (bt s) p) = x.B (p - cntU (bt s) p) := rfl
    omega
theorem first_st {x : Sg} {s : ByteArray} (hs : sgOk x = true) (ho : ordOk x s = true) : ∀ k, k < s.size → stT (runSg x) (bt (firstS x)) k ≤ stT (runSg x) (bt s) k
  | 0, hk => first_rd hs ho hk
  | k + 1, hk => by
    have ih := first_st hs ho k (by omega)
    have h1 := first_rd hs ho hk
    have h2 : stT (runSg x) (bt (firstS x)) (k + 1) = max (rdT x (bt (firstS x)) (k + 1)) (stT (runSg x) (bt (firstS x)) k + gapT (runSg x) (bt (firstS x)) k) := rfl
    have h3 : stT (runSg x) (bt s) (k + 1) = max (rdT x (bt s) (k + 1)) (stT (runSg x) (bt s) k + gapT (runSg x) (bt s) k) := rfl
    rw [run_gap] at h2 h3
    omega
theorem first_ok {x : Sg} (hs : sgOk x = true) : stOk x (firstS x) = true := stOk_yes hs (first_ord hs)
theorem first_okR {x : Sg} (hs : sgOk x = true) : stOk (runSg x) (firstS x) = true := stOk_yes (run_ok hs) (first_ord hs)
theorem first_least {x : Sg} {s : ByteArray} (hs : sgOk x = true) (ho : ordOk x s = true) : endV (runSg x) (firstS x) ≤ endV (runSg x) s := by
  have hsz := (ordOk_true.1 ho).2.2
  have hfz := first_size hs
  have h1 := first_okR hs
  have h2 : stOk (runSg x) s = true := stOk_yes (run_ok hs) ho
  by_cases h0 : x.na + x.nb = 0
  · rw [endV_zero h1 (by omega), endV_zero h2 (by omega)]; omega
  · rw [endV_pos h1 (by omega), endV_pos h2 (by omega), hfz, hsz]
    have := first_st hs ho (x.na + x.nb - 1) (by omega)
    omega
theorem first_soon {x : Sg} (hs : sgOk x = true) : endV (runSg x) (firstS x) = soonV (runSg x) := by
  have h1 := end_least (first_okR hs)
  have h2 : endV (runSg x) (firstS x) ≤ soonV (runSg x) := by
    rw [soonV_yes (run_ok hs)]
    exact first_least hs (stOk_parts (ordS_ok (run_ok hs) (minI_lt (pasc_pos _ _)))).2
  omega

set_option maxRecDepth 100000 in
set_option maxHeartbeats 4000000 in
theorem lawFirst_any3 (ao : Option Addr) (n c : Nat) (w : World) (hB : BSl w ao n) (hnc : n ≤ c) (hn : n ≤ 9223372036854775807) :
    Calls Try.prog 5 #[.slice ao n c] w fun e w' => e = .returned (.bool true) ∧ Below w.heap.size w w' := by
  have HBS := Lib.hid hB
  clear hB
  by_cases hlong : 1048576 < n
  · go_enter Try.func5, Try.ntmps5
    go_wp2_with fail
    go_ret
    exact ⟨rfl, Below.refl _ _⟩
  go_enter Try.func5, Try.ntmps5
  go_wp2_with fail
  refine (drawFirst_any ao n c _ hnc hn HBS.out).mono ?_
  rintro e w1 ⟨v, x, rfl, hF, hL, hb1⟩
  have HF := Lib.hid hF
  have HBw := Lib.hid hb1
  have hz1 := hb1.size
  have hna := hL.na
  have hnb := hL.nb
  have HLL := Lib.hid hL
  obtain ⟨ga, ca, gb, cb, rfl, _⟩ := hF
  clear hb1 hL
  have HB0 : Hid (Below (w1.heap.size + 1) (w1.alloc (.cells #[.slice (some ⟨ga, 0, none⟩) x.na ca, .slice (some ⟨gb, 0, none⟩) x.nb cb, .int .i64 x.run, .int .i64 x.head] 25)) (w1.alloc (.cells #[.slice (some ⟨ga, 0, none⟩) x.na ca, .slice (some ⟨gb, 0, none⟩) x.nb cb, .int .i64 x.run, .int .i64 x.head] 25))) := Below.refl _ _
  have hbx := box_cells HB0.out (by omega)
  go_wp2_with fail
  refine (implFirst_any _ x _ (sg_at HF.out HB0.out) (by omega) (by omega)).mono ?_
  rintro e w2 ⟨rfl, hb⟩
  have HB2 := Lib.hid (HB0.out.trans (hb.mono (by have := HB0.out.size; simp at this ⊢ <;> omega)))
  clear hb hbx
  have hbx := box_cells HB2.out (by omega)
  go_wp2_with fail
  refine (specFirst_any _ x _ (sg_at HF.out HB2.out) (by omega) (by omega)).mono ?_
  rintro e w3 ⟨rfl, hb⟩
  have HB3 := Lib.hid (HB2.out.trans (hb.mono (by have := HB2.out.size; simp at this ⊢ <;> omega)))
  clear hb hbx
  have hbx := box_cells HB3.out (by omega)
  cases hs : sgOk x
  · have HS := Lib.hid hs
    clear hs
    go_wp2_with fail
    go_ret
    exact ⟨rfl, law_end HBw.out HB3.out⟩
  have HS := Lib.hid hs
  have hx := sgOk_bd hs
  have hfz := first_size hs
  obtain ⟨hrun1, hrun2⟩ := hx.run
  have HX := Lib.hid hx
  have HOK := Lib.hid (first_ord hs)
  clear hs hx
  have HFr : Hid (SgF w.heap.size w3 (.agg #[.slice (some ⟨ga, 0, none⟩) x.na ca, .slice (some ⟨gb, 0, none⟩) x.nb cb, .int .i64 x.run, .int .i64 x.head]) x) := HF.out.keep ((below_all _ _).trans (HB3.out.mono (by omega)))
  have HOW := Lib.hid HFr.out.owns
  go_wp2_with fail
  go_loopw [8, 9, 10, 11, 12] (fun sa sb sl si _ wr => ∃ k : Nat, k ≤ (firstS x).size ∧ si = .int .i64 k ∧ sa = .int .i64 (cntU (bt (firstS x)) k) ∧ sb = .int .i64 ((k - cntU (bt (firstS x)) k : Nat) : Int) ∧ sl = .int .i64 (lstT x (bt (firstS x)) k) ∧ Dr w3 wr) (fun _ _ _ si _ _ => (firstS x).size - (intOf si).toNat)
  case atStart => exact ⟨0, Nat.zero_le _, rfl, rfl, rfl, rfl, Dr.refl _⟩
  case round =>
    obtain ⟨k, hk, rfl, rfl, rfl, rfl, q, rfl⟩ := hrel
    have hcu := cntU_le (bt (firstS x)) k
    by_cases hlt : k < (firstS x).size
    · have hpl := ord_places HOK.out k hlt
      have hbt := bt_at hlt
      have hlst := first_last HS.out hlt
      have HN : Hid (lstT x (bt (firstS x)) (k + 1) = rdT x (bt (firstS x)) k) := rfl
      by_cases hU : bt (firstS x) k = 85
      · have hpa := hpl.1 hU
        have hca1 := HOW.out.1.cell1 hpa
        have HR : Hid (rdT x (bt (firstS x)) k = x.A (cntU (bt (firstS x)) k)) := rdT_U hU
        have HC := Lib.hid (cntU_U hU)
        have gU : (bt (firstS x) k == 85) = true := by simp [hU]
        rw [HR.out] at hlst
        have hd : decide (x.A (cntU (bt (firstS x)) k) < lstT x (bt (firstS x)) k) = false := decide_eq_false (by omega)
        clear hU hpl hlst
        go_wp2_with fail
        go_roundw
        case rel => exact ⟨k + 1, by omega, by go_num, by rw [HC.out] <;> (first | rfl | go_num), by rw [HC.out]; (first | go_num | (congr 1; omega)), by rw [HN.out, HR.out], (by repeat (first | exact Dr.refl _ | exact ⟨_, rfl⟩ | refine Dr.drewN ?_ _))⟩
        case measure => simp [intOf]; omega
      · have hpa := hpl.2 hU
        have hca1 := HOW.out.2.cell1 hpa
        have HR : Hid (rdT x (bt (firstS x)) k = x.B (k - cntU (bt (firstS x)) k)) := rdT_D hU
        have HC := Lib.hid (cntU_D hU)
        have gU : (bt (firstS x) k == 85) = false := by simp [hU]
        rw [HR.out] at hlst
        have hd : decide (x.B (k - cntU (bt (firstS x)) k) < lstT x (bt (firstS x)) k) = false := decide_eq_false (by omega)
        clear hU hpl hlst
        go_wp2_with fail
        go_roundw
        case rel => exact ⟨k + 1, by omega, by go_num, by rw [HC.out] <;> (first | rfl | go_num), by rw [HC.out]; (first | go_num | (congr 1; omega)), by rw [HN.out, HR.out], (by repeat (first | exact Dr.refl _ | exact ⟨_, rfl⟩ | refine Dr.drewN ?_ _))⟩
        case measure => simp [intOf]; omega
    · obtain rfl : k = (firstS x).size := by omega
      clear hlt
      have HD4 : Hid (Dr w3 (w3.drewN q)) := (by repeat (first | exact Dr.refl _ | exact ⟨_, rfl⟩ | refine Dr.drewN ?_ _))
      have HOA : Hid (Own (w3.drewN q) ga ca x.na 1 3 (fun i => .int .i64 (x.A i))) := HOW.out.1.drewN q
      have HOB : Hid (Own (w3.drewN q) gb cb x.nb 1 3 (fun i => .int .i64 (x.B i))) := HOW.out.2.drewN q
      have HB4 := Lib.hid (HB3.out.trans (below_dr HD4.out _))
      clear hbx HD4
      generalize w3.drewN q = w4 at *
      have hbx := box_cells HB4.out (by omega)
      have hsz4 : w1.heap.size < w4.heap.size := by have := HB4.out.size; simp at this ⊢; omega
      have HX4 := Lib.hid (box_keep hbx (below_all w4 (.cells #[.slice (some ⟨ga, 0, none⟩) x.na ca, .slice (some ⟨gb, 0, none⟩) x.nb cb, .int .i64 x.run, .int .i64 x.run] 25)) hsz4)
      have HVX : Hid (SgV (w4.alloc (.cells #[.slice (some ⟨ga, 0, none⟩) x.na ca, .slice (some ⟨gb, 0, none⟩) x.nb cb, .int .i64 x.run, .int .i64 x.run] 25)) (.agg #[.slice (some ⟨ga, 0, none⟩) x.na ca, .slice (some ⟨gb, 0, none⟩) x.nb cb, .int .i64 x.run, .int .i64 x.head]) x) := ⟨ga, 0, ca, gb, 0, cb, rfl, (IC.of_own HOA.out).keep (below_all _ _), (IC.of_own HOB.out).keep (below_all _ _)⟩
      have HVL : Hid (SgV (w4.alloc (.cells #[.slice (some ⟨ga, 0, none⟩) x.na ca, .slice (some ⟨gb, 0, none⟩) x.nb cb, .int .i64 x.run, .int .i64 x.run] 25)) (.agg #[.slice (some ⟨ga, 0, none⟩) x.na ca, .slice (some ⟨gb, 0, none⟩) x.nb cb, .int .i64 x.run, .int .i64 x.run]) (runSg x)) := ⟨ga, 0, ca, gb, 0, cb, rfl, (IC.of_own HOA.out).keep (below_all _ _), (IC.of_own HOB.out).keep (below_all _ _)⟩
      go_wp2_with fail
      refine (implBest_any _ x _ HVX.out (by omega) (by omega)).mono ?_
      rintro e w5 ⟨rfl, hb5⟩
      have HC5 : Hid (Below (w4.heap.size + 1) (w4.alloc (.cells #[.slice (some ⟨ga, 0, none⟩) x.na ca, .slice (some ⟨gb, 0, none⟩) x.nb cb, .int .i64 x.run, .int .i64 x.run] 25)) w5) := hb5.mono (by simp)
      have hz5 : w4.heap.size + 1 ≤ w5.heap.size := by have := HC5.out.size; simpa using this
      have hd5 := box_cells HC5.out (by omega)
      have hx5 := box_keep HX4.out HC5.out (by omega)
      rw [HS.out]
      have hsb : (bestS x).size ≤ 12 := by
        rw [bestS_yes HS.out, ordS_size]; omega
      have q2 : decide (waitV x (bestS x) ≤ waitV x (firstS x)) = true := decide_eq_true (wait_least (first_ok HS.out))
      have q3 : (endV (runSg x) (firstS x) == soonV (runSg x)) = true := by rw [first_soon HS.out]; simp
      clear hb5 hbx
      go_wp2_with fail
      go_region_held3 (fun w' => w'.cell? ⟨w1.heap.size, 0, none⟩ = some (.slice (some ⟨ga, 0, none⟩) x.na ca) ∧ w'.cell? ⟨w1.heap.size, 1, none⟩ = some (.slice (some ⟨gb, 0, none⟩) x.nb cb) ∧
          w'.cell? ⟨w1.heap.size, 2, none⟩ = some (.int .i64 x.run) ∧ w'.cell? ⟨w1.heap.size, 3, none⟩ = some (.int .i64 x.head) ∧
          w'.cell? ⟨w4.heap.size, 0, none⟩ = some (.slice (some ⟨ga, 0, none⟩) x.na ca) ∧ w'.cell? ⟨w4.heap.size, 1, none⟩ = some (.slice (some ⟨gb, 0, none⟩) x.nb cb) ∧
          w'.cell? ⟨w4.heap.size, 2, none⟩ = some (.int .i64 x.run) ∧ w'.cell? ⟨w4.heap.size, 3, none⟩ = some (.int .i64 x.run)) (go_keep)
        (first | (go_at_call_of 27 (Value.string (firstS x)); go_must (refine Calls.mono (implWait_any _ x _ (firstS x) (by omega) (HVX.out.keep (Below.mono (by first | exact HC5.out | exact (HC5.out).drew | exact (HC5.out).drew.drew | exact (HC5.out).drew.drew.drew | exact (HC5.out).drew.drew.drew.drew | exact (HC5.out).drew.drew.drew.drew.drew | exact (HC5.out).drew.drew.drew.drew.drew.drew | exact (HC5.out).drew.drew.drew.drew.drew.drew.drew | exact (HC5.out).drew.drew.drew.drew.drew.drew.drew.drew) (by simp))) (by omega) (by omega)) ?_); rintro e w6 ⟨rfl, hb6⟩; go_must (have HC6 : Hid (Below (w4.heap.size + 1) (w4.alloc (.cells #[.slice (some ⟨ga, 0, none⟩) x.na ca, .slice (some ⟨gb, 0, none⟩) x.nb cb, .int .i64 x.run, .int .i64 x.run] 25)) w6) := Below.trans (by first | exact HC5.out | exact (HC5.out).drew | exact (HC5.out).drew.drew | exact (HC5.out).drew.drew.drew | exact (HC5.out).drew.drew.drew.drew | exact (HC5.out).drew.drew.drew.drew.drew | exact (HC5.out).drew.drew.drew.drew.drew.drew | exact (HC5.out).drew.drew.drew.drew.drew.drew.drew | exact (HC5.out).drew.drew.drew.drew.drew.drew.drew.drew) (hb6.mono (by first | omega | (simp; done) | (simp; omega)))); have hz6 : w4.heap.size + 1 ≤ w6.heap.size := (by have := HC6.out.size; simpa using this); clear hb6; go_must (have hd6 := box_cells HC6.out (by omega)); go_must (have hx6 := box_keep HX4.out HC6.out (by omega)))
               | (go_at_call_of 27 (Value.string (bestS x)); go_must (refine Calls.mono (implWait_any _ x _ (bestS x) (by omega) (HVX.out.keep (Below.mono (by first | exact HC6.out | exact (HC6.out).drew | exact (HC6.out).drew.drew | exact (HC6.out).drew.drew.drew | exact (HC6.out).drew.drew.drew.drew | exact (HC6.out).drew.drew.drew.drew.drew | exact (HC6.out).drew.drew.drew.drew.drew.drew | exact (HC6.out).drew.drew.drew.drew.drew.drew.drew | exact (HC6.out).drew.drew.drew.drew.drew.drew.drew.drew) (by simp))) (by omega) (by omega)) ?_); rintro e w7 ⟨rfl, hb7⟩; go_must (have HC7 : Hid (Below (w4.heap.size + 1) (w4.alloc (.cells #[.slice (some ⟨ga, 0, none⟩) x.na ca, .slice (some ⟨gb, 0, none⟩) x.nb cb, .int .i64 x.run, .int .i64 x.run] 25)) w7) := Below.trans (by first | exact HC6.out | exact (HC6.out).drew | exact (HC6.out).drew.drew | exact (HC6.out).drew.drew.drew | exact (HC6.out).drew.drew.drew.drew | exact (HC6.out).drew.drew.drew.drew.drew | exact (HC6.out).drew.drew.drew.drew.drew.drew | exact (HC6.out).drew.drew.drew.drew.drew.drew.drew | exact (HC6.out).drew.drew.drew.drew.drew.drew.drew.drew) (hb7.mono (by first | omega | (simp; done) | (simp; omega)))); have hz7 : w4.heap.size + 1 ≤ w7.heap.size := (by have := HC7.out.size; simpa using this); clear hb7; go_must (have hd7 := box_cells HC7.out (by omega)); go_must (have hx7 := box_keep HX4.out HC7.out (by omega)))
               | (go_at_call 28; go_must (refine Calls.mono (implEnd_any _ (runSg x) _ (firstS x) (by omega) (HVL.out.keep (Below.mono (by first | exact HC7.out | exact (HC7.out).drew | exact (HC7.out).drew.drew | exact (HC7.out).drew.drew.drew | exact (HC7.out).drew.drew.drew.drew | exact (HC7.out).drew.drew.drew.drew.drew | exact (HC7.out).drew.drew.drew.drew.drew.drew | exact (HC7.out).drew.drew.drew.drew.drew.drew.drew | exact (HC7.out).drew.drew.drew.drew.drew.drew.drew.drew) (by simp))) (by show x.na ≤ _; omega) (by show x.nb ≤ _; omega)) ?_); rintro e w8 ⟨rfl, hb8⟩; go_must (have HC8 : Hid (Below (w4.heap.size + 1) (w4.alloc (.cells #[.slice (some ⟨ga, 0, none⟩) x.na ca, .slice (some ⟨gb, 0, none⟩) x.nb cb, .int .i64 x.run, .int .i64 x.run] 25)) w8) := Below.trans (by first | exact HC7.out | exact (HC7.out).drew | exact (HC7.out).drew.drew | exact (HC7.out).drew.drew.drew | exact (HC7.out).drew.drew.drew.drew | exact (HC7.out).drew.drew.drew.drew.drew | exact (HC7.out).drew.drew.drew.drew.drew.drew | exact (HC7.out).drew.drew.drew.drew.drew.drew.drew | exact (HC7.out).drew.drew.drew.drew.drew.drew.drew.drew) (hb8.mono (by first | omega | (simp; done) | (simp; omega)))); have hz8 : w4.heap.size + 1 ≤ w8.heap.size := (by have := HC8.out.size; simpa using this); clear hb8; go_must (have hd8 := box_cells HC8.out (by omega)); go_must (have hx8 := box_keep HX4.out HC8.out (by omega)))
               | (go_at_call 29; go_must (refine Calls.mono (implSoon_any _ (runSg x) _ (HVL.out.keep (Below.mono (by first | exact HC8.out | exact (HC8.out).drew | exact (HC8.out).drew.drew | exact (HC8.out).drew.drew.drew | exact (HC8.out).drew.drew.drew.drew | exact (HC8.out).drew.drew.drew.drew.drew | exact (HC8.out).drew.drew.drew.drew.drew.drew | exact (HC8.out).drew.drew.drew.drew.drew.drew.drew | exact (HC8.out).drew.drew.drew.drew.drew.drew.drew.drew) (by simp))) (by show x.na ≤ _; omega) (by show x.nb ≤ _; omega)) ?_); rintro e w9 ⟨rfl, hb9⟩; go_must (have HC9 : Hid (Below (w4.heap.size + 1) (w4.alloc (.cells #[.slice (some ⟨ga, 0, none⟩) x.na ca, .slice (some ⟨gb, 0, none⟩) x.nb cb, .int .i64 x.run, .int .i64 x.run] 25)) w9) := Below.trans (by first | exact HC8.out | exact (HC8.out).drew | exact (HC8.out).drew.drew | exact (HC8.out).drew.drew.drew | exact (HC8.out).drew.drew.drew.drew | exact (HC8.out).drew.drew.drew.drew.drew | exact (HC8.out).drew.drew.drew.drew.drew.drew | exact (HC8.out).drew.drew.drew.drew.drew.drew.drew | exact (HC8.out).drew.drew.drew.drew.drew.drew.drew.drew) (hb9.mono (by first | omega | (simp; done) | (simp; omega)))); have hz9 : w4.heap.size + 1 ≤ w9.heap.size := (by have := HC9.out.size; simpa using this); clear hb9; go_must (have hd9 := box_cells HC9.out (by omega)); go_must (have hx9 := box_keep HX4.out HC9.out (by omega))))
      go_wp2_with fail
      go_ret
      exact ⟨rfl, law_end HBw.out (HB4.out.trans (((below_all w4 _).trans (HC9.out.mono (by omega))).mono (by omega)))⟩
end Go.Proofs.Ytnhkijfibiffnaa
