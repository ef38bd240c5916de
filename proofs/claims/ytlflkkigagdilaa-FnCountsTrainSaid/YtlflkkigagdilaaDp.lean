/-
  Walks of the draws of counts: bounds alone.
-/
import Derived.Test.YtlflkkigagdilaaDc
namespace Go.Proofs.Ytlflkkigagdilaa
open Go.RowKit

theorem grow_new {w wa wb : World} {R g : Nat} (h : w.grownBy wa (some R)) (k : wa.grownBy wb (some g)) (hg : w.heap.size ≤ g) : w.grownBy wb (some R) :=
  ⟨k.os.trans h.os, k.tape.trans h.tape, k.output.trans h.output, Nat.le_trans h.size k.size, fun i hi hr => (k.block i (Nat.lt_of_lt_of_le hi h.size) (by simp; omega)).trans (h.block i hi hr)⟩
theorem grow_below {w wa wb : World} {R : Nat} (h : w.grownBy wa (some R)) (k : Below wa.heap.size wa wb) : w.grownBy wb (some R) :=
  grownBy_trans h (grownBy_below k _)
theorem mul_bd {u v : Int} (hu : 0 ≤ u ∧ u < 4) (hv : 0 ≤ v ∧ v < 3) : 0 ≤ u * v ∧ u * v ≤ 6 := by
  have h1 : u = 0 ∨ u = 1 ∨ u = 2 ∨ u = 3 := by omega
  rcases h1 with rfl | rfl | rfl | rfl <;> omega

/-- a drawn list of counts -/
def DCnt (R m : Nat) (w : World) (e : Ending) (w' : World) : Prop :=
  ∃ (n g cap : Nat) (f : Nat → Int), e = .returned (.slice (some ⟨g, 0, none⟩) n cap) ∧ n ≤ 4 ∧ (∀ i, i < n → -1 ≤ f i ∧ f i ≤ 51) ∧ w.heap.size ≤ g ∧ Own w' g cap n 1 3 (fun i => .int .i64 (f i)) ∧ RdL w' R m ∧ w.grownBy w' (some R)

theorem DCnt.set0 {R m M n g cap : Nat} {f : Nat → Int} {w wb : World} {v : Int} (ho : Own wb g cap n 1 3 (fun i => .int .i64 (f i))) (hf : ∀ i, i < n → -1 ≤ f i ∧ f i ≤ 51) (hg : w.heap.size ≤ g) (hr : RdL wb R M) (hR : R < g) (hb : w.grownBy wb (some R)) (hn : n ≤ 4) (hv : -1 ≤ v ∧ v ≤ 51) (hm : M ≤ m) :
    DCnt R m w (.returned (.slice (some ⟨g, 0, none⟩) n cap)) (wb.setCell ⟨g, 0, none⟩ (.int .i64 v)) :=
  ⟨n, g, cap, fun i => if i = 0 then v else f i, rfl, hn, fun i hi => by
    dsimp only
    split
    · exact hv
    · exact hf i hi, hg, (ho.set 0 _).congr (fun i hi => by dsimp only; split <;> rfl), (hr.kept (grownBy_setCell _ _ _ _) hR).mono hm, grow_new hb (grownBy_setCell _ _ _ _) hg⟩
set_option maxHeartbeats 1000000 in
theorem l92Counts_any (R m : Nat) (w : World) (hm : m ≤ 100000) (hr : RdL w R m) :
    Calls Try.prog 41 #[.pointer (some ⟨R, 0, none⟩)] w (DCnt R (m + 11) w) := by
  have hlR := hr.lt
  have hr0 := Lib.hid hr
  clear hr
  go_enter Try.func41, Try.ntmps41
  go_wp2_with fail
  refine (pick_any R m _ _ (by omega) (by omega) (hr0.out.alloc _)).mono ?_
  rintro e w1 ⟨u, rfl, hu, hr1, hg1⟩
  have hub := pkB_lt hu (by omega)
  have HR1 := Lib.hid hr1
  have HO1 : Hid (∀ f, Own w1 w.heap.size 0 0 1 3 f) := fun f => (own_empty w 1 3 f).picked hg1 (by omega)
  have HG1 := Lib.hid (grownBy_trans (World.grownBy_alloc w (.cells #[] 3) (some R)) hg1)
  clear hr1 hg1 hu
  obtain ⟨q, rfl⟩ : ∃ q : Nat, u = (q : Int) := ⟨u.toNat, by omega⟩
  go_wp2_with fail
  go_loopw [3, 5] (fun out i wr => ∃ (j g cap : Nat) (f : Nat → Int), j ≤ 1 + q ∧ i = .int .i64 j ∧ out = .slice (some ⟨g, 0, none⟩) j cap ∧ w.heap.size ≤ g ∧ Own wr g cap j 1 3 (fun i => .int .i64 (f i)) ∧ (∀ i, i < j → -1 ≤ f i ∧ f i ≤ 51) ∧ RdL wr R (m + 1 + 2 * j) ∧ w.grownBy wr (some R))
    (fun _ i _ => 1 + q - (intOf i).toNat)
  case atStart => exact ⟨0, _, _, fun _ => 0, Nat.zero_le _, rfl, rfl, Nat.le_refl _, HO1.out _, fun i hi => by omega, HR1.out, HG1.out⟩
  case round =>
    obtain ⟨j, g, cap, f, hj, rfl, rfl, hg, ho, hf, hr, hb⟩ := hrel
    have HO := Lib.hid ho
    have HF := Lib.hid hf
    have HR := Lib.hid hr
    have HB := Lib.hid hb
    clear ho hf hr hb
    by_cases hlt : j < 1 + q
    · go_wp2_with fail
      refine (pick_any R (m + 1 + 2 * j) _ _ (by omega) (by omega) HR.out).mono ?_
      rintro e wa ⟨v, rfl, hv, hra, hga⟩
      have hvb := pkB_lt hv (by omega)
      have HRa := Lib.hid hra
      have HGa := Lib.hid hga
      have HOa := Lib.hid (HO.out.picked hga (by omega))
      clear hra hga hv
      go_wp2_with fail
      refine (pick_any R (m + 1 + 2 * j + 1) _ _ (by omega) (by omega) HRa.out).mono ?_
      rintro e wb ⟨x, rfl, hx, hrb, hgb⟩
      have hxb := pkB_lt hx (by omega)
      have HRb := Lib.hid hrb
      have HGb := Lib.hid (grownBy_trans HGa.out hgb)
      have HOb := Lib.hid (HOa.out.picked hgb (by omega))
      have hm6 := mul_bd hvb hxb
      obtain ⟨hm60, hm61⟩ := hm6
      clear hrb hgb hx
      go_wp2_with (at_builtin; refine wpList_pushI elInt rfl (.tmp 15) (.tmp 21) rfl (f := fun i => if i = j then v * x else f i) (HOb.out.congr (fun i hi => by rw [if_neg (by omega)])) rfl rfl (by simp) (by omega) ?_; intro g' c' wc HA hgr hd)
      have zb := HGb.out.size
      have hlr := HRb.out.lt
      have z0 := HB.out.size
      go_roundw
      case rel => exact ⟨j + 1, g', c', _, by omega, by go_num, rfl, by omega, HA, fun i hi => by
          by_cases e : i = j
          · rw [if_pos e]; omega
          · rw [if_neg e]; exact HF.out i (by omega), (HRb.out.kept hgr (by omega)).mono (by omega), grow_new (grownBy_trans HB.out HGb.out) hgr hg⟩
      case measure => simp [intOf]; omega
    · obtain rfl : j = 1 + q := by omega
      go_wp2_with fail
      refine (pick_any R (m + 1 + 2 * (1 + q)) _ _ (by omega) (by omega) HR.out).mono ?_
      rintro e wa ⟨v, rfl, hv, hra, hga⟩
      have hvb := pkB_lt hv (by omega)
      have HRa := Lib.hid hra
      have HGa := Lib.hid (grownBy_trans HB.out hga)
      have HOa := Lib.hid (HO.out.picked hga (by omega))
      clear hra hga hv
      by_cases h0 : v = 0
      · have g0 : (v == 0) = true := by simp [h0]
        clear h0
        go_wp2_with fail
        refine (pick_any R (m + 1 + 2 * (1 + q) + 1) _ _ (by omega) (by omega) (HRa.out.alloc _)).mono ?_
        rintro e wb ⟨x, rfl, hx, hrb, hgb⟩
        have hbx := box_kept (box_new wa _ _) hgb (by simp) (by have := HRa.out.lt; omega)
        have HRb := Lib.hid hrb
        have HGb := Lib.hid (grownBy_trans (grownBy_trans HGa.out (World.grownBy_alloc wa _ (some R))) hgb)
        have HOb := Lib.hid ((HOa.out.alloc _).picked hgb (by omega))
        have hfr := HOb.out.free
        have hc0 := HOb.out.cell1 (i := 0) (by omega)
        clear hrb hgb
        rcases pk3 hx with rfl | rfl | rfl
        all_goals
          clear hx
          go_wp2_with fail
          go_ret
          exact DCnt.set0 HOb.out HF.out hg HRb.out (by omega) HGb.out (by omega) (by omega) (by omega)
      · have g0 : (v == 0) = false := by simp [h0]
        clear h0
        by_cases h1 : v = 1
        · have g1 : (v == 1) = true := by simp [h1]
          clear h1
          go_wp2_with fail
          go_ret
          exact ⟨0, wa.heap.size, 0, fun _ => 0, rfl, by omega, fun i hi => by omega, HGa.out.size, own_empty _ _ _ _, (HRa.out.alloc _).mono (by omega), grownBy_trans HGa.out (World.grownBy_alloc _ _ _)⟩
        · have g1 : (v == 1) = false := by simp [h1]
          clear h1
          go_wp2_with fail
          go_ret
          exact ⟨_, g, cap, f, rfl, by omega, HF.out, hg, HOa.out, HRa.out.mono (by omega), HGa.out⟩

set_option maxHeartbeats 1000000 in
theorem drawPulse_any (ao : Option Addr) (n c : Nat) (w : World) (hnc : n ≤ c) (hn : n ≤ 9223372036854775807) (hB : BSl w ao n) :
    Calls Try.prog 22 #[.slice ao n c] w fun e w' => ∃ (m g cap : Nat) (f : Nat → Int) (p : Int), e = .returned (.tuple #[.slice (some ⟨g, 0, none⟩) m cap, .int .i64 p]) ∧ m ≤ 4 ∧ (∀ i, i < m → -1 ≤ f i ∧ f i ≤ 51) ∧ -6 ≤ p ∧ p ≤ 5 ∧
      w.heap.size ≤ g ∧ Own w' g cap m 1 3 (fun i => .int .i64 (f i)) ∧ Below w.heap.size w w' := by
  have HBS := Lib.hid hB
  clear hB
  go_enter Try.func22, Try.ntmps22
  go_wp2_with fail
  refine (open_any ao n c _ hn hnc HBS.out).mono ?_
  rintro e w1 ⟨R, rfl, hR, hr1, hb1⟩
  have HR1 := Lib.hid hr1
  have HB1 := Lib.hid hb1
  clear hr1 hb1
  go_wp2_with fail
  refine (l92Counts_any R 0 _ (by omega) HR1.out).mono ?_
  rintro e w2 ⟨m, g, cap, f, rfl, hm, hf, hg, ho, hr2, hg2⟩
  have HF := Lib.hid hf
  have HO := Lib.hid ho
  have HR2 := Lib.hid hr2
  have z1 := HB1.out.size
  have HB2 := Lib.hid (HB1.out.trans (below_of_grown hg2 hR z1))
  have hl1 := HR1.out.lt
  clear hf ho hr2 hg2
  go_wp2_with fail
  refine (l92Pulse_any R (0 + 11) m _ (by omega) (by omega) HR2.out).mono ?_
  rintro e w3 ⟨p, rfl, hp, hr3, hg3⟩
  have hpb := inB_true.1 hp
  have HO3 := Lib.hid (HO.out.picked hg3 (by omega))
  have HB3 := Lib.hid (HB2.out.trans (below_of_grown hg3 hR HB2.out.size))
  clear hp hr3 hg3
  go_wp2_with fail
  go_ret2
  exact ⟨m, g, cap, f, p, rfl, hm, HF.out, by omega, by omega, by omega, HO3.out, HB3.out⟩
end Go.Proofs.Ytlflkkigagdilaa
