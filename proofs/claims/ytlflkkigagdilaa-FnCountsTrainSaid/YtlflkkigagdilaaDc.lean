/-
  Walks of the draws of counts and pulses: bounds alone.
-/
import Derived.Test.YtlflkkigagdilaaCd
namespace Go.Proofs.Ytlflkkigagdilaa
open Go.RowKit

theorem box_kept {w w' : World} {b R : Nat} {F : Nat → Option Value} (h : ∀ o, w.cell? ⟨b, o, none⟩ = F o) (hg : w.grownBy w' (some R)) (hb : b < w.heap.size) (hne : b ≠ R) : ∀ o, w'.cell? ⟨b, o, none⟩ = F o := fun o => by
  rw [← h o]
  exact World.cell?_of_block (w := w) (hg.block b hb (by simpa using hne))
theorem box_new (w : World) (cs : Array Value) (t : TypeId) : ∀ o, (w.alloc (.cells cs t)).cell? ⟨w.heap.size, o, none⟩ = cs[o]? := box_cells (Below.refl (w.heap.size + 1) _) (by omega)
theorem below_all (w : World) (a : Obj) : Below w.heap.size w (w.alloc a) := (Below.refl _ _).alloc (Nat.le_refl _) _
theorem RdL.alloc {w : World} {R m : Nat} (h : RdL w R m) (a : Obj) : RdL (w.alloc a) R m := h.keep (below_all _ _)
theorem RdL.alloc2 {w : World} {R m : Nat} (h : RdL w R m) (a b : Obj) : RdL ((w.alloc a).alloc b) R m := (h.alloc a).alloc b
theorem pk2 {v : Int} (h : pkB 2 v) : v = 0 ∨ v = 1 := by have := pkB_lt h (by omega); omega
theorem pk3 {v : Int} (h : pkB 3 v) : v = 0 ∨ v = 1 ∨ v = 2 := by have := pkB_lt h (by omega); omega

set_option maxHeartbeats 1000000 in
theorem l92Pulse_any (R m n : Nat) (w : World) (hn : n ≤ 1000) (hm : m ≤ 100000) (hr : RdL w R m) :
    Calls Try.prog 31 #[.pointer (some ⟨R, 0, none⟩), .int .i64 n] w fun e w' => ∃ v : Int, e = .returned (.int .i64 v) ∧ inB v (-2 - (n : Int)) (n + 1) = true ∧ RdL w' R (m + 3) ∧ w.grownBy w' (some R) := by
  go_enter Try.func31, Try.ntmps31
  go_wp2_with fail
  refine (pick_any R m _ _ (by omega) (by omega) hr).mono ?_
  rintro e w1 ⟨v, rfl, hv, hr1, hg1⟩
  have HR1 := Lib.hid hr1
  have HG1 := Lib.hid hg1
  have hl1 := hr1.lt
  clear hr1 hg1
  by_cases h0 : v = 0
  · have g0 : (v == 0) = true := by simp [h0]
    clear h0
    go_wp2_with fail
    refine (pick_any R (m + 1) _ _ (by omega) (by omega) (HR1.out.alloc _)).mono ?_
    rintro e w2 ⟨u, rfl, hu, hr2, hg2⟩
    have hbx := box_kept (box_new w1 _ _) hg2 (by simp) (by omega)
    have HR2 := Lib.hid hr2
    have HG2 := Lib.hid (grownBy_trans HG1.out (grownBy_trans (World.grownBy_alloc w1 _ (some R)) hg2))
    clear hr2 hg2
    rcases pk2 hu with rfl | rfl
    · clear hu hv
      go_wp2_with fail
      go_ret
      exact ⟨_, rfl, inB_true.2 ⟨by omega, by omega⟩, HR2.out.mono (by omega), HG2.out⟩
    · clear hu hv
      go_wp2_with fail
      go_ret
      exact ⟨_, rfl, inB_true.2 ⟨by omega, by omega⟩, HR2.out.mono (by omega), HG2.out⟩
  · have g0 : (v == 0) = false := by simp [h0]
    clear h0
    go_wp2_with fail
    refine (pick_any R (m + 1) _ _ (by omega) (by omega) HR1.out).mono ?_
    rintro e w2 ⟨k, rfl, hk, hr2, hg2⟩
    have hkb := pkB_lt hk (by omega)
    have HR2 := Lib.hid hr2
    have HG2 := Lib.hid (grownBy_trans HG1.out hg2)
    clear hr2 hg2 hk hv
    go_wp2_with fail
    refine (pick_any R (m + 2) _ _ (by omega) (by omega) HR2.out).mono ?_
    rintro e w3 ⟨u, rfl, hu, hr3, hg3⟩
    have HR3 := Lib.hid hr3
    have HG3 := Lib.hid (grownBy_trans HG2.out hg3)
    clear hr3 hg3 hu
    by_cases h1 : u = 0
    · have g1 : (u == 0) = true := by simp [h1]
      clear h1
      go_wp2_with fail
      go_ret
      exact ⟨_, rfl, inB_true.2 ⟨by omega, by omega⟩, HR3.out.mono (by omega), HG3.out⟩
    · have g1 : (u == 0) = false := by simp [h1]
      clear h1
      go_wp2_with fail
      go_ret
      exact ⟨_, rfl, inB_true.2 ⟨by omega, by omega⟩, HR3.out.mono (by omega), HG3.out⟩

/-- a row of numbers is kept by what a pick leaves -/
theorem Own.picked {w w' : World} {g cap n s R : Nat} {t : TypeId} {f : Nat → Value} (h : Own w g cap n s t f) (hb : w.grownBy w' (some R)) (hg : g ≠ R) : Own w' g cap n s t f := h.kept hb (by simpa using hg)

set_option maxHeartbeats 1000000 in
theorem drawNet_any (ao : Option Addr) (n c : Nat) (w : World) (hnc : n ≤ c) (hn : n ≤ 9223372036854775807) (hB : BSl w ao n) :
    Calls Try.prog 8 #[.slice ao n c] w fun e w' => ∃ (k m g cap : Nat) (f : Nat → Int), e = .returned (.tuple #[.int .i64 k, .slice (some ⟨g, 0, none⟩) m cap]) ∧ k ≤ 4 ∧ m ≤ 7 ∧ (∀ i, i < m → -6 ≤ f i ∧ f i ≤ 5) ∧
      w.heap.size ≤ g ∧ Own w' g cap m 1 3 (fun i => .int .i64 (f i)) ∧ Below w.heap.size w w' := by
  have HBS := Lib.hid hB
  clear hB
  go_enter Try.func8, Try.ntmps8
  go_wp2_with fail
  refine (open_any ao n c _ hn hnc HBS.out).mono ?_
  rintro e w1 ⟨R, rfl, hR, hr1, hb1⟩
  have HR1 := Lib.hid hr1
  have HB1 := Lib.hid hb1
  clear hr1 hb1
  go_wp2_with fail
  refine (pick_any R 0 _ _ (by omega) (by omega) HR1.out).mono ?_
  rintro e w2 ⟨v, rfl, hv, hr2, hg2⟩
  have hvb := pkB_lt hv (by omega)
  have HR2 := Lib.hid hr2
  have HB2 := Lib.hid (HB1.out.trans (below_of_grown hg2 hR HB1.out.size))
  clear hr2 hg2 hv
  obtain ⟨k, rfl⟩ : ∃ k : Nat, v = (k : Int) := ⟨v.toNat, by omega⟩
  go_wp2_with fail
  refine (pick_any R 1 _ _ (by omega) (by omega) (HR2.out.alloc _)).mono ?_
  rintro e w3 ⟨u, rfl, hu, hr3, hg3⟩
  have hub := pkB_lt hu (by omega)
  have z2 := HB2.out.size
  have hl2 := HR2.out.lt
  have HR3 := Lib.hid hr3
  have HO3 : Hid (∀ f, Own w3 w2.heap.size 0 0 1 3 f) := fun f => (own_empty w2 1 3 f).picked hg3 (by omega)
  have HB3 := Lib.hid ((HB2.out.alloc z2 (.cells #[] 3)).trans (below_of_grown hg3 hR (by simp; omega)))
  clear hr3 hg3 hu
  obtain ⟨q, rfl⟩ : ∃ q : Nat, u = (q : Int) := ⟨u.toNat, by omega⟩
  go_wp2_with fail
  go_loopw [6, 8] (fun out i wr => ∃ (j g cap : Nat) (f : Nat → Int), j ≤ q ∧ i = .int .i64 j ∧ out = .slice (some ⟨g, 0, none⟩) j cap ∧ w.heap.size ≤ g ∧ R < g ∧ Own wr g cap j 1 3 (fun i => .int .i64 (f i)) ∧ (∀ i, i < j → -6 ≤ f i ∧ f i ≤ 5) ∧ RdL wr R (2 + 3 * j) ∧ Below w.heap.size w wr)
    (fun _ i _ => q - (intOf i).toNat)
  case atStart => exact ⟨0, _, _, fun _ => 0, Nat.zero_le _, rfl, rfl, by omega, by omega, HO3.out _, fun i hi => by omega, HR3.out, HB3.out⟩
  case round =>
    obtain ⟨j, g, cap, f, hj, rfl, rfl, hg, hgR, ho, hf, hr, hb⟩ := hrel
    have HO := Lib.hid ho
    have HF := Lib.hid hf
    have HR := Lib.hid hr
    have HB := Lib.hid hb
    clear ho hf hr hb
    by_cases hlt : j < q
    · go_wp2_with (first
        | (go_at_call 31; refine Calls.mono (l92Pulse_any R (2 + 3 * j) (1 + k) wr (by omega) (by omega) HR.out) ?_; rintro e wa ⟨v, rfl, hv, hra, hga⟩; have HRa := Lib.hid hra; have HGa := Lib.hid hga; have HOa := Lib.hid (HO.out.picked hga (by omega)); have hvb := inB_true.1 hv; clear hra hga hv)
        | (at_builtin; refine wpList_pushI elInt rfl (.tmp 22) (.tmp 26) rfl (f := fun i => if i = j then v else f i) (HOa.out.congr (fun i hi => by rw [if_neg (by omega)])) rfl rfl (by simp) (by omega) ?_; intro g' c' wb HA hgr hd))
      have zb := HB.out.size
      have za := HGa.out.size
      have hlr := HRa.out.lt
      have hlg := HOa.out.lt
      have HBb := Lib.hid ((HB.out.trans (below_of_grown HGa.out hR zb)).trans (below_of_grown hgr hg (by omega)))
      go_roundw
      case rel => exact ⟨j + 1, g', c', _, by omega, by go_num, rfl, by omega, by omega, HA, fun i hi => by
          by_cases e : i = j
          · rw [if_pos e]; omega
          · rw [if_neg e]; exact HF.out i (by omega), (HRa.out.kept hgr hgR).mono (by omega), HBb.out⟩
      case measure => simp [intOf]; omega
    · obtain rfl : j = q := by omega
      go_wp2_with fail
      refine (pick_any R (2 + 3 * j) _ _ (by omega) (by omega) HR.out).mono ?_
      rintro e wa ⟨v, rfl, hv, hra, hga⟩
      have hvb := pkB_lt hv (by omega)
      have HGa := Lib.hid hga
      have HOa := Lib.hid (HO.out.picked hga (by omega))
      clear hra hga hv
      by_cases h15 : v = 15
      · subst h15
        go_wp2_with fail
        go_ret2
        exact ⟨0, j, g, cap, f, by simp, by omega, by omega, HF.out, hg, HOa.out, HB.out.trans (below_of_grown HGa.out hR HB.out.size)⟩
      · have hd : v / 15 = 0 := by omega
        go_wp2_with fail
        go_ret2
        exact ⟨1 + k, j, g, cap, f, by simp, by omega, by omega, HF.out, hg, HOa.out, HB.out.trans (below_of_grown HGa.out hR HB.out.size)⟩
end Go.Proofs.Ytlflkkigagdilaa
