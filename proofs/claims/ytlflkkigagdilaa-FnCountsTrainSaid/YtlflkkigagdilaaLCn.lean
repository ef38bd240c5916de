/-
  The law FnCountsNet: plain sums, and the walk.
-/
import Derived.Test.YtlflkkigagdilaaDc
namespace Go.Proofs.Ytlflkkigagdilaa
open Go.RowKit

theorem IRes.yes {ok : Bool} {n : Nat} {f : Nat → Int} {w : World} {e : Ending} {w' : World} (h : IRes ok n f w e w') (hk : ok = true) :
    ∃ g cap, e = .returned (.tuple #[.slice (some ⟨g, 0, none⟩) n cap, .bool true]) ∧ w.heap.size ≤ g ∧ Own w' g cap n 1 3 (fun i => .int .i64 (f i)) ∧ Below w.heap.size w w' := by
  subst hk
  obtain ⟨g, cap, h1, h2, h3, h4⟩ := h
  exact ⟨g, cap, h1, h2, h3, h4⟩

/-- pulses to the right less those to the left -/
def sgnS (ps : Nat → Int) (k : Nat) : Int := sumTo (fun i => oneP (ps i)) k
theorem sgnS_bd (ps : Nat → Int) (k : Nat) : -(k : Int) ≤ sgnS ps k ∧ sgnS ps k ≤ k := by
  have := sumTo_bd (fun i => oneP (ps i)) 1 (fun i => oneP_bd _) k
  unfold sgnS
  omega
theorem sumTo_add (f g : Nat → Int) : ∀ k, sumTo (fun i => f i + g i) k = sumTo f k + sumTo g k
  | 0 => rfl
  | k + 1 => by simp only [sumTo, sumTo_add f g k]; omega
theorem sumTo_one (a : Nat) (o : Int) : ∀ k, sumTo (fun i => if i = a then o else 0) k = if a < k then o else 0
  | 0 => by simp [sumTo]
  | k + 1 => by
    simp only [sumTo, sumTo_one a o k]
    by_cases h1 : a < k
    · rw [if_pos h1, if_neg (by omega), if_pos (by omega)]; omega
    · rw [if_neg h1]
      by_cases h2 : k = a
      · rw [if_pos h2, if_pos (by omega)]; omega
      · rw [if_neg h2, if_neg (by omega)]; rfl
theorem sumTo_zero : ∀ k, sumTo (fun _ => 0) k = 0
  | 0 => rfl
  | k + 1 => by simp only [sumTo, sumTo_zero k]; rfl
theorem net_sum (n : Nat) (ps : Nat → Int) : ∀ m, (∀ k, k < m → atP (ps k) ≤ n) → sumTo (netF ps m) (n + 1) = sgnS ps m
  | 0, _ => sumTo_zero _
  | m + 1, h => by
    have ih := net_sum n ps m (fun k hk => h k (by omega))
    have e : netF ps (m + 1) = fun i => netF ps m i + (if i = atP (ps m) then oneP (ps m) else 0) := rfl
    rw [e, sumTo_add, ih, sumTo_one, if_pos (by have := h m (by omega); omega)]
    rfl
/-- a list, and the same again -/
def dblF (m : Nat) (f : Nat → Int) (i : Nat) : Int := if i < m then f i else f (i - m)
theorem net_congr {f g : Nat → Int} : ∀ m, (∀ k, k < m → f k = g k) → ∀ j, netF f m j = netF g m j
  | 0, _, _ => rfl
  | m + 1, h, j => by
    simp only [netF]
    rw [net_congr m (fun k hk => h k (by omega)) j, h m (by omega)]
theorem net_add (f : Nat → Int) (m : Nat) (j : Nat) : ∀ q, q ≤ m → netF (dblF m f) (m + q) j = netF f m j + netF f q j
  | 0, _ => by
    rw [Nat.add_zero, net_congr (g := f) m (fun k hk => by unfold dblF; rw [if_pos hk])]
    simp [netF]
  | q + 1, h => by
    have ih := net_add f m j q (by omega)
    have e : dblF m f (m + q) = f q := by unfold dblF; rw [if_neg (by omega)]; congr 1; omega
    rw [← Nat.add_assoc]
    simp only [netF]
    rw [ih, e]
    omega
theorem net_dbl (f : Nat → Int) (m j : Nat) : netF (dblF m f) (m + m) j = 2 * netF f m j := by
  rw [net_add f m j m (Nat.le_refl _)]
  omega
theorem netOk_dbl {n m : Nat} {f : Nat → Int} (h : netOk n m f = true) : netOk n (m + m) (dblF m f) = true := by
  have h1 := netOk_true.1 h
  refine netOk_true.2 ⟨h1.1, fun k hk => ?_⟩
  unfold dblF
  split
  · exact h1.2 _ (by omega)
  · exact h1.2 _ (by omega)
theorem ic_src {w : World} {b off m n : Nat} {f F : Nat → Int} (h : IC w b off m f) (e : ∀ j, j < m → f j = F (n + j)) : ∀ j, j < m * 1 → w.cell? ((⟨b, off, none⟩ : Addr).add j) = some ((fun i => Value.int .i64 (F i)) (n * 1 + j)) := by
  intro j hj
  rw [addr_add, h j (by omega), e j (by omega), Nat.mul_one]
theorem eqSl_refl (n : Nat) (f : Nat → Int) : eqSl n n f f = true := eqSl_true.2 ⟨rfl, fun _ _ => rfl⟩

set_option maxRecDepth 100000 in
set_option maxHeartbeats 2000000 in
theorem lawNet_any (ao : Option Addr) (n c : Nat) (w : World) (hB : BSl w ao n) (hnc : n ≤ c) (hn : n ≤ 9223372036854775807) :
    Calls Try.prog 3 #[.slice ao n c] w fun e w' => e = .returned (.bool true) ∧ Below w.heap.size w w' := by
  have HBS := Lib.hid hB
  clear hB
  by_cases hlong : 1048576 < n
  · go_enter Try.func3, Try.ntmps3
    go_wp2_with fail
    go_ret
    exact ⟨rfl, Below.refl _ _⟩
  go_enter Try.func3, Try.ntmps3
  go_wp2_with fail
  refine (drawNet_any ao n c _ hnc hn HBS.out).mono ?_
  rintro e w1 ⟨k, m, g, cap, f, rfl, hk, hm, hf, hg, ho, hb1⟩
  have HF := Lib.hid hf
  have HO1 := Lib.hid ho
  have HB1 := Lib.hid hb1
  have hps : Hid (∀ i, i < m → -9223372036854775808 ≤ f i ∧ f i ≤ 9223372036854775807) := fun i hi => by have := HF.out i hi; omega
  clear hf ho hb1
  go_wp2_with fail
  refine (implNet_any k g 0 m cap f _ (by omega) (by omega) hps.out (IC.of_own HO1.out)).mono ?_
  rintro e w2 ⟨g2, c2, rfl, hg2, ho2, hb2⟩
  have HO2 := Lib.hid ho2
  have HB2 := Lib.hid (HB1.out.trans (hb2.mono HB1.out.size))
  have HO12 := Lib.hid (HO1.out.below hb2 HO1.out.lt)
  clear ho2 hb2
  obtain ⟨N, hN⟩ : ∃ N : Nat, N = if netOk k m f = true then k + 1 else 0 := ⟨_, rfl⟩
  rw [← hN] at HO2 ⊢
  have HN := Lib.hid hN
  have hNb : N ≤ 5 := by rw [hN]; split <;> omega
  clear hN
  go_wp2_with fail
  refine (specNet_any k g 0 m cap f _ (by omega) (by omega) hps.out (IC.of_own HO12.out)).mono ?_
  rintro e w3 ⟨g3, c3, rfl, hg3, ho3, hb3⟩
  rw [← HN.out] at ho3 ⊢
  have HO3 := Lib.hid ho3
  have HO23 := Lib.hid (HO2.out.below hb3 HO2.out.lt)
  have HO13 := Lib.hid (HO12.out.below hb3 HO12.out.lt)
  have HB3 := Lib.hid (HB2.out.trans (hb3.mono HB2.out.size))
  clear ho3 hb3
  have gb : ∀ b : Bool, (b != b) = false := fun b => by simp
  have gb2 : ∀ b : Bool, (b == b) = true := fun b => by simp
  cases hok : netOk k m f
  · have HK := Lib.hid hok
    clear hok
    go_wp2_with fail
    refine (sameInts_any g2 0 N c2 g3 0 N c3 _ _ _ (by omega) (by omega) (IC.of_own HO23.out) (IC.of_own HO3.out)).mono ?_
    rintro e w4 ⟨rfl, q4, rfl⟩
    rw [eqSl_refl]
    go_wp2_with fail
    refine (sameInts_any g2 0 N c2 g3 0 N c3 _ _ _ (by omega) (by omega) (IC.of_own (HO23.out.drewN _)) (IC.of_own (HO3.out.drewN _))).mono ?_
    rintro e w5 ⟨rfl, q5, rfl⟩
    rw [eqSl_refl]
    go_wp2_with fail
    go_ret
    exact ⟨rfl, below_drewN HB3.out _⟩
  · have HK := Lib.hid hok
    have hN2 : N = k + 1 := by rw [HN.out, hok]; rfl
    have HN2 := Lib.hid hN2
    have hkk := netOk_true.1 hok
    have HA := Lib.hid hkk.2
    have hNk : N ≤ k + 1 ∧ k + 1 ≤ N := by omega
    clear hok hN2 hkk
    go_wp2_with fail
    refine (sameInts_any g2 0 N c2 g3 0 N c3 _ _ _ (by omega) (by omega) (IC.of_own HO23.out) (IC.of_own HO3.out)).mono ?_
    rintro e w4 ⟨rfl, q4, rfl⟩
    rw [eqSl_refl]
    go_wp2_with fail
    have HB4 := Lib.hid (below_drewN HB3.out q4)
    have HO14 := Lib.hid (HO13.out.drewN q4)
    have HO24 := Lib.hid (HO23.out.drewN q4)
    go_loop [9, 10] (fun s i => ∃ j : Nat, j ≤ m ∧ i = .int .i64 j ∧ s = .int .i64 (sgnS f j)) (fun _ i => m - (intOf i).toNat)
    case atStart => exact ⟨0, Nat.zero_le _, rfl, rfl⟩
    case round =>
      obtain ⟨j, hj, rfl, rfl⟩ := hrel
      have hsb := sgnS_bd f j
      by_cases hlt : j < m
      · have hcj := HO14.out.cell1 hlt
        by_cases hneg : f j < 0
        · have HE := Lib.hid (oneP_neg hneg)
          go_wp2_with fail
          go_round
          case rel => exact ⟨j + 1, by omega, by go_num, by
            show Value.int .i64 _ = Value.int .i64 (sgnS f j + oneP (f j))
            rw [HE.out]; go_num⟩
          case measure => simp [intOf]; omega
        · have HE := Lib.hid (oneP_pos hneg)
          go_wp2_with fail
          go_round
          case rel => exact ⟨j + 1, by omega, by go_num, by
            show Value.int .i64 _ = Value.int .i64 (sgnS f j + oneP (f j))
            rw [HE.out]⟩
          case measure => simp [intOf]; omega
      · obtain rfl : j = m := by omega
        clear hlt hj
        have hgl : g < w3.heap.size := HO13.out.lt
        have hgl2 : g2 < w3.heap.size := HO23.out.lt
        have HE0 : Hid (∀ F, Own ((w3.drewN q4).alloc (.cells #[] 3)) w3.heap.size 0 0 1 3 F) := fun F => own_empty (w3.drewN q4) 1 _ F
        go_wp2_with (first
          | (at_builtin; refine wpList_app elInt rfl (.tmp 72) (.tmp 73) (by rfl) (HE0.out (fun i => .int .i64 (dblF j f i))) (by rfl) ⟨g, 0, none⟩ j cap (by rfl) (ic_src (IC.of_own (HO14.out.alloc _)) (fun i hi => by rw [Nat.zero_add]; exact (if_pos hi).symm)) (fun _ _ => rfl) (by unfold maxLen; omega) (by omega) ?_; intro ga ca wa HA hgr hd; rw [Nat.zero_add] at HA; have HAo := Lib.hid HA; go_must (have HSa := Lib.hid ((HO14.out.alloc _).kept hgr (by simp; omega))); go_must (have HTa := Lib.hid ((HO24.out.alloc _).kept hgr (by simp; omega))); have HBa := Lib.hid ((below_all _ _).trans (below_of_grown hgr (Nat.le_refl _) (by simp))); have hda := hd; clear HA hgr hd)
          | (at_builtin; refine wpList_app elInt rfl (.tmp 74) (.tmp 75) (by rfl) HAo.out (by rfl) ⟨g, 0, none⟩ j cap (by rfl) (ic_src (IC.of_own HSa.out) (fun i hi => by unfold dblF; rw [if_neg (by omega)]; congr 1; omega)) (fun _ _ => rfl) (by unfold maxLen; omega) (by omega) ?_; intro gb' cb wb HA hgr hd; have HDb := Lib.hid HA; have HGb := Lib.hid hgr; have hdb := hd; clear HA hgr hd))
        have hga : w3.heap.size ≤ ga := by
          rcases hda with h | h
          · omega
          · simp at h; omega
        have HTb := Lib.hid (HTa.out.kept HGb.out (by simp; omega))
        have HBb := Lib.hid ((HB4.out.trans (HBa.out.mono (by have := HB3.out.size; simpa using this))).trans (below_of_grown HGb.out (by have := HB3.out.size; omega) (by have := HB3.out.size; have := HBa.out.size; simp at this; omega)))
        have hpd : Hid (∀ i, i < j + j → -9223372036854775808 ≤ dblF j f i ∧ dblF j f i ≤ 9223372036854775807) := fun i hi => by
          unfold dblF
          split
          · have := HF.out i (by omega); omega
          · have := HF.out (i - j) (by omega); omega
        have HC := Lib.hid (implNet_any k gb' 0 (j + j) cb (dblF j f) wb (by omega) (by omega) hpd.out (IC.of_own HDb.out))
        rw [← HN2.out] at HC
        refine (HC.out).mono ?_
        intro e wx hx
        obtain ⟨gx, cx, rfl, hgx, hox, hbx⟩ := hx.yes (netOk_dbl HK.out)
        have HX := Lib.hid (hox.congr (f' := fun i => .int .i64 (2 * netF f j i)) (fun i hi => by rw [net_dbl]))
        have HTx := Lib.hid (HTb.out.below hbx HTb.out.lt)
        have HBx := Lib.hid (HBb.out.trans (hbx.mono HBb.out.size))
        clear hx hox hbx
        go_wp2_with fail
        go_loopw [13] (fun i wr => ∃ q : Nat, q ≤ N ∧ i = .int .i64 q ∧ Dr wx wr) (fun i _ => N - (intOf i).toNat)
        case atStart => exact ⟨0, Nat.zero_le _, rfl, Dr.refl _⟩
        case round =>
          obtain ⟨q, hq, rfl, qq, rfl⟩ := hrel
          by_cases hlt : q < N
          · have hc1 := HX.out.cell1 hlt
            have hc2 := HTx.out.cell1 hlt
            have hnb := netF_bd f j q
            have hm2 : IntKind.i64.wrap (2 * netF f j q) = 2 * netF f j q := IntWalk.i64_in _ (by omega)
            go_wp2_with fail
            go_quiet (fail)
            clear hm2
            go_wp2_with fail
            go_roundw
            case rel => exact ⟨q + 1, by omega, by go_num, (by repeat (first | exact Dr.refl _ | exact ⟨_, rfl⟩ | refine Dr.drewN ?_ _))⟩
            case measure => simp [intOf]; omega
          · obtain rfl : q = N := by omega
            have hsum : (sumTo (netF f j) q == sgnS f j) = true := by
              have := net_sum k f j HA.out
              rw [← HN2.out] at this
              simp [this]
            have hlen : ((q : Int) == (k : Int) + 1) = true := by have := HN2.out; simp; omega
            go_wp2_with fail
            refine (lawsSum_any g2 0 q c2 (netF f j) _ (by omega) (fun i hi => by have := netF_bd f j i; omega) (IC.of_own (HTx.out.drewN _))).mono ?_
            rintro e w' ⟨rfl, rfl⟩
            go_wp2_with fail
            go_ret
            exact ⟨rfl, below_drewN HBx.out _⟩
end Go.Proofs.Ytlflkkigagdilaa
