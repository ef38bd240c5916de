/-
  The law FnStarts: the walk.
-/
import Derived.Test.YtnhkijfibiffnaaLWa
namespace Go.Proofs.Ytnhkijfibiffnaa
open Go.RowKit

set_option maxRecDepth 100000 in
set_option maxHeartbeats 8000000 in
theorem lawStarts_any3 (ao : Option Addr) (n c : Nat) (w : World) (hB : BSl w ao n) (hnc : n ≤ c) (hn : n ≤ 9223372036854775807) :
    Calls Try.prog 7 #[.slice ao n c] w fun e w' => e = .returned (.bool true) ∧ Below w.heap.size w w' := by
  have HBS := Lib.hid hB
  clear hB
  by_cases hlong : 1048576 < n
  · go_enter Try.func7, Try.ntmps7
    go_wp2_with fail
    go_ret
    exact ⟨rfl, Below.refl _ _⟩
  go_enter Try.func7, Try.ntmps7
  go_wp2_with fail
  refine (drawStarts_any ao n c _ hnc hn HBS.out).mono ?_
  rintro e w1 ⟨v, x, s, rfl, hF, hL, hs, hb1⟩
  have HF := Lib.hid hF
  have HBw := Lib.hid hb1
  have hz1 := hb1.size
  have hna := hL.na
  have hnb := hL.nb
  have HLL := Lib.hid hL
  obtain ⟨ga, ca, gb, cb, rfl, _⟩ := hF
  clear hb1 hL
  have HB0 : Hid (Below (w1.heap.size + 1) (w1.alloc (.cells #[.slice (some ⟨ga, 0, none⟩) x.na ca, .slice (some ⟨gb, 0, none⟩) x.nb cb, .int .i64 x.run, .int .i64 x.head] 25)) (w1.alloc (.cells #[.slice (some ⟨ga, 0, none⟩) x.na ca, .slice (some ⟨gb, 0, none⟩) x.nb cb, .int .i64 x.run, .int .i64 x.head] 25))) := Below.refl _ _
  have hbx := box_cells HB0.out (by omega)
  go_wp2_with fail
  refine (implStarts_any _ x _ s (by omega) (sg_at HF.out HB0.out) (by omega) (by omega)).mono ?_
  rintro e w2 ⟨g1, c1, rfl, hg1, hO1, hb2⟩
  have HO1 := Lib.hid hO1
  have HB2 := Lib.hid (HB0.out.trans (hb2.mono (by have := HB0.out.size; simp at this ⊢ <;> omega)))
  have hsz2 := hO1.lt
  clear hb2 hbx hO1
  have hbx := box_cells HB2.out (by omega)
  go_wp2_with fail
  refine (specStarts_any _ x _ s (by omega) (sg_at HF.out HB2.out) (by omega) (by omega)).mono ?_
  rintro e w3 ⟨g2, c2, rfl, hg2, hO2, hb3⟩
  have HO2 := Lib.hid hO2
  have HO := Lib.hid (HO1.out.below hb3 HO1.out.lt)
  have HB3 := Lib.hid (HB2.out.trans (hb3.mono (by have := HB2.out.size; simp at this ⊢ <;> omega)))
  clear hb3 hbx hO2
  have hbx := box_cells HB3.out (by omega)
  have hstn : stN x s ≤ 12 := by unfold stN; split <;> omega
  have hso : ∀ W, Dr w3 W → Calls Try.prog 36 #[.slice (some ⟨g1, 0, none⟩) (stN x s) c1, .slice (some ⟨g2, 0, none⟩) (stN x s) c2] W fun e w' => e = .returned (.bool true) ∧ Dr W w' := fun W hW => by
    obtain ⟨q, rfl⟩ := hW
    refine (sameInts_any g1 0 (stN x s) c1 g2 0 (stN x s) c2 _ _ _ (by omega) (by omega) (IC.of_own (HO.out.drewN q)) (IC.of_own (HO2.out.drewN q))).mono ?_
    rintro e w' ⟨rfl, h⟩
    exact ⟨by rw [eqSl_true.2 ⟨rfl, fun _ _ => rfl⟩], h⟩
  have HSO := Lib.hid hso
  clear hso
  cases hok : stOk x s
  · have HK := Lib.hid hok
    clear hok
    go_wp2_with fail
    refine (HSO.out _ (Dr.refl _)).mono ?_
    rintro e w4 ⟨rfl, q, rfl⟩
    go_wp2_with fail
    refine (HSO.out _ ⟨q, rfl⟩).mono ?_
    rintro e w5 ⟨rfl, q2, rfl⟩
    go_wp2_with fail
    go_ret
    exact ⟨rfl, law_end HBw.out (HB3.out.trans (below_dr (by repeat (first | exact Dr.refl _ | exact ⟨_, rfl⟩ | refine Dr.drewN ?_ _)) _))⟩
  have HK := Lib.hid hok
  have hx := (stOk_parts hok).1
  have ho := (stOk_parts hok).2
  have HX := Lib.hid hx
  have HOK := Lib.hid ho
  have hhd := hx.head
  have hrn := hx.run
  have HCN : Hid (cntU (bt s) s.size = x.na ∧ s.size = x.na + x.nb) := (ordOk_true.1 ho).2
  have HN := Lib.hid (stN_yes hok)
  clear hok ho hx
  go_wp2_with fail
  refine (HSO.out _ (Dr.refl _)).mono ?_
  rintro e w4 ⟨rfl, hd4⟩
  have hO4 : Own w4 g1 c1 (stN x s) 1 3 (fun i => .int .i64 (stT x (bt s) i)) := by
    obtain ⟨q, rfl⟩ := hd4
    exact HO.out.drewN q
  rw [HN.out] at hO4
  rw [HN.out]
  have HB4 := Lib.hid (HB3.out.trans (below_dr hd4 _))
  have HFr : Hid (SgF w.heap.size w4 (.agg #[.slice (some ⟨ga, 0, none⟩) x.na ca, .slice (some ⟨gb, 0, none⟩) x.nb cb, .int .i64 x.run, .int .i64 x.head]) x) := HF.out.keep ((below_all _ _).trans (HB4.out.mono (by omega)))
  have HOW := Lib.hid HFr.out.owns
  clear hd4 HO hbx hstn
  have HO := Lib.hid hO4
  have hbx := box_cells HB4.out (by omega)
  clear hO4
  go_wp2_with fail
  go_loopw [9, 10, 11, 12, 13] (fun sa sb si _ _ wr => ∃ k : Nat, k ≤ s.size ∧ si = .int .i64 k ∧ sa = .int .i64 (cntU (bt s) k) ∧ sb = .int .i64 ((k - cntU (bt s) k : Nat) : Int) ∧ Dr w4 wr) (fun _ _ si _ _ _ => s.size - (intOf si).toNat)
  case atStart => exact ⟨0, Nat.zero_le _, rfl, rfl, rfl, Dr.refl _⟩
  case round =>
    obtain ⟨k, hk, rfl, rfl, rfl, q, rfl⟩ := hrel
    have hcu := cntU_le (bt s) k
    by_cases hlt : k < s.size
    · have hpl := ord_places HOK.out k hlt
      have hbt := bt_at hlt
      have hcell := HO.out.cell1 hlt
      by_cases hU : bt s k = 85
      · have hpa := hpl.1 hU
        have hca1 := HOW.out.1.cell1 hpa
        have HR : Hid (rdT x (bt s) k = x.A (cntU (bt s) k)) := rdT_U hU
        have HC := Lib.hid (cntU_U hU)
        have gU : (bt s k == 85) = true := by simp [hU]
        clear hU hpl
        by_cases hk0 : 0 < k
        · have hlast := HO.out.cell1 (i := k - 1) (by omega)
          have hlb := stT_bd HX.out HOK.out (k - 1) (by omega)
          have hlb2 := stT_bd HX.out HOK.out k hlt
          have hbt' := bt_at (s := s) (k := k - 1) (by omega)
          have hS : stT x (bt s) k = max (rdT x (bt s) k) (stT x (bt s) (k - 1) + gapT x (bt s) (k - 1)) := by
            obtain ⟨j, rfl⟩ : ∃ j, k = j + 1 := ⟨k - 1, by omega⟩
            rfl
          by_cases hsame : bt s k = bt s (k - 1)
          · have HG : Hid (gapT x (bt s) (k - 1) = x.head) := if_pos (by rw [show k - 1 + 1 = k from by omega]; exact hsame)
            have gS2 : (bt s k != bt s (k - 1)) = false := by simp [hsame]
            clear hsame
            rw [HR.out, HG.out] at hS
            have hw : IntKind.i64.wrap (stT x (bt s) k - stT x (bt s) (k - 1)) = stT x (bt s) k - stT x (bt s) (k - 1) := IntWalk.i64_in _ (by omega)
            have d1 : decide (stT x (bt s) k < x.A (cntU (bt s) k)) = false := decide_eq_false (by omega)
            have d2 : decide (stT x (bt s) k - stT x (bt s) (k - 1) < x.head) = false := decide_eq_false (by omega)
            by_cases hq : stT x (bt s) k = x.A (cntU (bt s) k)
            · have d3 : (stT x (bt s) k != x.A (cntU (bt s) k)) = false := by simp [hq]
              clear hq hS
              go_wp2_with fail
              go_quiet (fail)
              go_wp2_with fail
              go_quiet (fail)
              clear hw
              go_wp2_with fail
              go_roundw
              case rel => exact ⟨k + 1, by omega, by go_num, by rw [HC.out] <;> (first | rfl | go_num), by rw [HC.out]; (first | go_num | (congr 1; omega)), (by repeat (first | exact Dr.refl _ | exact ⟨_, rfl⟩ | refine Dr.drewN ?_ _))⟩
              case measure => simp [intOf]; omega
            · have d3 : (stT x (bt s) k != x.A (cntU (bt s) k)) = true := by simp [hq]
              have d4 : (stT x (bt s) k - stT x (bt s) (k - 1) != x.head) = false := by
                rw [show stT x (bt s) k - stT x (bt s) (k - 1) = x.head from by omega]; simp
              have d5 : ((k : Int) == 0) = false := by simp; omega
              clear hq hS
              go_wp2_with fail
              go_quiet (fail)
              go_wp2_with fail
              go_quiet (fail)
              clear hw
              go_wp2_with fail
              go_roundw
              case rel => exact ⟨k + 1, by omega, by go_num, by rw [HC.out] <;> (first | rfl | go_num), by rw [HC.out]; (first | go_num | (congr 1; omega)), (by repeat (first | exact Dr.refl _ | exact ⟨_, rfl⟩ | refine Dr.drewN ?_ _))⟩
              case measure => simp [intOf]; omega
          · have HG : Hid (gapT x (bt s) (k - 1) = x.run) := if_neg (by rw [show k - 1 + 1 = k from by omega]; exact hsame)
            have gS2 : (bt s k != bt s (k - 1)) = true := by simp [hsame]
            clear hsame
            rw [HR.out, HG.out] at hS
            have hw : IntKind.i64.wrap (stT x (bt s) k - stT x (bt s) (k - 1)) = stT x (bt s) k - stT x (bt s) (k - 1) := IntWalk.i64_in _ (by omega)
            have d1 : decide (stT x (bt s) k < x.A (cntU (bt s) k)) = false := decide_eq_false (by omega)
            have d2 : decide (stT x (bt s) k - stT x (bt s) (k - 1) < x.run) = false := decide_eq_false (by omega)
            by_cases hq : stT x (bt s) k = x.A (cntU (bt s) k)
            · have d3 : (stT x (bt s) k != x.A (cntU (bt s) k)) = false := by simp [hq]
              clear hq hS
              go_wp2_with fail
              go_quiet (fail)
              go_wp2_with fail
              go_quiet (fail)
              clear hw
              go_wp2_with fail
              go_roundw
              case rel => exact ⟨k + 1, by omega, by go_num, by rw [HC.out] <;> (first | rfl | go_num), by rw [HC.out]; (first | go_num | (congr 1; omega)), (by repeat (first | exact Dr.refl _ | exact ⟨_, rfl⟩ | refine Dr.drewN ?_ _))⟩
              case measure => simp [intOf]; omega
            · have d3 : (stT x (bt s) k != x.A (cntU (bt s) k)) = true := by simp [hq]
              have d4 : (stT x (bt s) k - stT x (bt s) (k - 1) != x.run) = false := by
                rw [show stT x (bt s) k - stT x (bt s) (k - 1) = x.run from by omega]; simp
              have d5 : ((k : Int) == 0) = false := by simp; omega
              clear hq hS
              go_wp2_with fail
              go_quiet (fail)
              go_wp2_with fail
              go_quiet (fail)
              clear hw
              go_wp2_with fail
              go_roundw
              case rel => exact ⟨k + 1, by omega, by go_num, by rw [HC.out] <;> (first | rfl | go_num), by rw [HC.out]; (first | go_num | (congr 1; omega)), (by repeat (first | exact Dr.refl _ | exact ⟨_, rfl⟩ | refine Dr.drewN ?_ _))⟩
              case measure => simp [intOf]; omega
        · have hS : stT x (bt s) k = rdT x (bt s) k := by
            obtain rfl : k = 0 := by omega
            rfl
          rw [HR.out] at hS
          have d1 : decide (stT x (bt s) k < x.A (cntU (bt s) k)) = false := decide_eq_false (by omega)
          have d3 : (stT x (bt s) k != x.A (cntU (bt s) k)) = false := by simp [hS]
          have hdk : decide (0 < k) = false := by simp; omega
          have hw : True := trivial
          clear hS
          go_wp2_with fail
          go_quiet (fail)
          go_wp2_with fail
          go_quiet (fail)
          clear hw
          go_wp2_with fail
          go_roundw
          case rel => exact ⟨k + 1, by omega, by go_num, by rw [HC.out] <;> (first | rfl | go_num), by rw [HC.out]; (first | go_num | (congr 1; omega)), (by repeat (first | exact Dr.refl _ | exact ⟨_, rfl⟩ | refine Dr.drewN ?_ _))⟩
          case measure => simp [intOf]; omega
      · have hpa := hpl.2 hU
        have hca1 := HOW.out.2.cell1 hpa
        have HR : Hid (rdT x (bt s) k = x.B (k - cntU (bt s) k)) := rdT_D hU
        have HC := Lib.hid (cntU_D hU)
        have gU : (bt s k == 85) = false := by simp [hU]
        clear hU hpl
        by_cases hk0 : 0 < k
        · have hlast := HO.out.cell1 (i := k - 1) (by omega)
          have hlb := stT_bd HX.out HOK.out (k - 1) (by omega)
          have hlb2 := stT_bd HX.out HOK.out k hlt
          have hbt' := bt_at (s := s) (k := k - 1) (by omega)
          have hS : stT x (bt s) k = max (rdT x (bt s) k) (stT x (bt s) (k - 1) + gapT x (bt s) (k - 1)) := by
            obtain ⟨j, rfl⟩ : ∃ j, k = j + 1 := ⟨k - 1, by omega⟩
            rfl
          by_cases hsame : bt s k = bt s (k - 1)
          · have HG : Hid (gapT x (bt s) (k - 1) = x.head) := if_pos (by rw [show k - 1 + 1 = k from by omega]; exact hsame)
            have gS2 : (bt s k != bt s (k - 1)) = false := by simp [hsame]
            clear hsame
            rw [HR.out, HG.out] at hS
            have hw : IntKind.i64.wrap (stT x (bt s) k - stT x (bt s) (k - 1)) = stT x (bt s) k - stT x (bt s) (k - 1) := IntWalk.i64_in _ (by omega)
            have d1 : decide (stT x (bt s) k < x.B (k - cntU (bt s) k)) = false := decide_eq_false (by omega)
            have d2 : decide (stT x (bt s) k - stT x (bt s) (k - 1) < x.head) = false := decide_eq_false (by omega)
            by_cases hq : stT x (bt s) k = x.B (k - cntU (bt s) k)
            · have d3 : (stT x (bt s) k != x.B (k - cntU (bt s) k)) = false := by simp [hq]
              clear hq hS
              go_wp2_with fail
              go_quiet (fail)
              go_wp2_with fail
              go_quiet (fail)
              clear hw
              go_wp2_with fail
              go_roundw
              case rel => exact ⟨k + 1, by omega, by go_num, by rw [HC.out] <;> (first | rfl | go_num), by rw [HC.out]; (first | go_num | (congr 1; omega)), (by repeat (first | exact Dr.refl _ | exact ⟨_, rfl⟩ | refine Dr.drewN ?_ _))⟩
              case measure => simp [intOf]; omega
            · have d3 : (stT x (bt s) k != x.B (k - cntU (bt s) k)) = true := by simp [hq]
              have d4 : (stT x (bt s) k - stT x (bt s) (k - 1) != x.head) = false := by
                rw [show stT x (bt s) k - stT x (bt s) (k - 1) = x.head from by omega]; simp
              have d5 : ((k : Int) == 0) = false := by simp; omega
              clear hq hS
              go_wp2_with fail
              go_quiet (fail)
              go_wp2_with fail
              go_quiet (fail)
              clear hw
              go_wp2_with fail
              go_roundw
              case rel => exact ⟨k + 1, by omega, by go_num, by rw [HC.out] <;> (first | rfl | go_num), by rw [HC.out]; (first | go_num | (congr 1; omega)), (by repeat (first | exact Dr.refl _ | exact ⟨_, rfl⟩ | refine Dr.drewN ?_ _))⟩
              case measure => simp [intOf]; omega
          · have HG : Hid (gapT x (bt s) (k - 1) = x.run) := if_neg (by rw [show k - 1 + 1 = k from by omega]; exact hsame)
            have gS2 : (bt s k != bt s (k - 1)) = true := by simp [hsame]
            clear hsame
            rw [HR.out, HG.out] at hS
            have hw : IntKind.i64.wrap (stT x (bt s) k - stT x (bt s) (k - 1)) = stT x (bt s) k - stT x (bt s) (k - 1) := IntWalk.i64_in _ (by omega)
            have d1 : decide (stT x (bt s) k < x.B (k - cntU (bt s) k)) = false := decide_eq_false (by omega)
            have d2 : decide (stT x (bt s) k - stT x (bt s) (k - 1) < x.run) = false := decide_eq_false (by omega)
            by_cases hq : stT x (bt s) k = x.B (k - cntU (bt s) k)
            · have d3 : (stT x (bt s) k != x.B (k - cntU (bt s) k)) = false := by simp [hq]
              clear hq hS
              go_wp2_with fail
              go_quiet (fail)
              go_wp2_with fail
              go_quiet (fail)
              clear hw
              go_wp2_with fail
              go_roundw
              case rel => exact ⟨k + 1, by omega, by go_num, by rw [HC.out] <;> (first | rfl | go_num), by rw [HC.out]; (first | go_num | (congr 1; omega)), (by repeat (first | exact Dr.refl _ | exact ⟨_, rfl⟩ | refine Dr.drewN ?_ _))⟩
              case measure => simp [intOf]; omega
            · have d3 : (stT x (bt s) k != x.B (k - cntU (bt s) k)) = true := by simp [hq]
              have d4 : (stT x (bt s) k - stT x (bt s) (k - 1) != x.run) = false := by
                rw [show stT x (bt s) k - stT x (bt s) (k - 1) = x.run from by omega]; simp
              have d5 : ((k : Int) == 0) = false := by simp; omega
              clear hq hS
              go_wp2_with fail
              go_quiet (fail)
              go_wp2_with fail
              go_quiet (fail)
              clear hw
              go_wp2_with fail
              go_roundw
              case rel => exact ⟨k + 1, by omega, by go_num, by rw [HC.out] <;> (first | rfl | go_num), by rw [HC.out]; (first | go_num | (congr 1; omega)), (by repeat (first | exact Dr.refl _ | exact ⟨_, rfl⟩ | refine Dr.drewN ?_ _))⟩
              case measure => simp [intOf]; omega
        · have hS : stT x (bt s) k = rdT x (bt s) k := by
            obtain rfl : k = 0 := by omega
            rfl
          rw [HR.out] at hS
          have d1 : decide (stT x (bt s) k < x.B (k - cntU (bt s) k)) = false := decide_eq_false (by omega)
          have d3 : (stT x (bt s) k != x.B (k - cntU (bt s) k)) = false := by simp [hS]
          have hdk : decide (0 < k) = false := by simp; omega
          have hw : True := trivial
          clear hS
          go_wp2_with fail
          go_quiet (fail)
          go_wp2_with fail
          go_quiet (fail)
          clear hw
          go_wp2_with fail
          go_roundw
          case rel => exact ⟨k + 1, by omega, by go_num, by rw [HC.out] <;> (first | rfl | go_num), by rw [HC.out]; (first | go_num | (congr 1; omega)), (by repeat (first | exact Dr.refl _ | exact ⟨_, rfl⟩ | refine Dr.drewN ?_ _))⟩
          case measure => simp [intOf]; omega
    · obtain rfl : k = s.size := by omega
      clear hlt
      have q1 : ((cntU (bt s) s.size : Int) == (x.na : Int)) = true := by rw [HCN.out.1]; simp
      have q2 : (((s.size - cntU (bt s) s.size : Nat) : Int) == (x.nb : Int)) = true := by rw [HCN.out.1, show s.size - x.na = x.nb from by have := HCN.out.2; omega]; simp
      go_wp2_with fail
      go_ret
      exact ⟨rfl, law_end HBw.out (HB4.out.trans (below_dr (by repeat (first | exact Dr.refl _ | exact ⟨_, rfl⟩ | refine Dr.drewN ?_ _)) _))⟩
end Go.Proofs.Ytnhkijfibiffnaa
