/-
  Walks of the draw of a train.
-/
import Derived.Test.YtlflkkigagdilaaCt
import Derived.Deep.RegionWith
import Derived.Deep.DrawnRows
namespace Go.Proofs.Ytlflkkigagdilaa
open Go.RowKit
attribute [local go_sem ↓] Go.wp_at_zero Go.wp_at_succ

theorem gcell {W w1 : World} {R : Nat} (hg : W.grownBy w1 (some R)) : ∀ b o, b < W.heap.size → b ≠ R → w1.cell? ⟨b, o, none⟩ = W.cell? ⟨b, o, none⟩ := fun b o h hne => World.cell?_of_block (w := W) (hg.block b h (by simpa using hne))
theorem pickN_any (R m n : Nat) (w : World) (hn : 1 ≤ n ∧ n ≤ 1000000) (hm : m ≤ 1000000) (hr : RdL w R m) :
    Calls Try.prog 30 #[.pointer (some ⟨R, 0, none⟩), .int .i64 n] w fun e w' => ∃ k : Nat, e = .returned (.int .i64 k) ∧ k < n ∧ RdL w' R (m + 1) ∧ w.grownBy w' (some R) :=
  (pick_any R m n w (by omega) hm hr).mono fun e w' ⟨v, he, hv, h1, h2⟩ => by
    have := pkB_lt hv (by omega)
    exact ⟨v.toNat, by rw [he]; congr 2; omega, by omega, h1, h2⟩

theorem drTrain_end {w W : World} {ka kb : Nat} (ha : ka < 3) (hb : kb < 3) (h : Below w.heap.size w W) : ∃ k a : Nat, Ending.returned (.tuple #[[Value.int .i64 0, .int .i64 9, .int .i64 1][ka]'(by simpa using ha), [Value.int .i64 0, .int .i64 51, .int .i64 50][kb]'(by simpa using hb)]) = .returned (.tuple #[.int .i64 k, .int .i64 a]) ∧ k ≤ 9 ∧ a ≤ 51 ∧ Below w.heap.size w W := by
  have h1 : ka = 0 ∨ ka = 1 ∨ ka = 2 := by omega
  have h2 : kb = 0 ∨ kb = 1 ∨ kb = 2 := by omega
  rcases h1 with rfl | rfl | rfl <;> rcases h2 with rfl | rfl | rfl <;> first | exact ⟨0, 0, rfl, by decide, by decide, h⟩ | exact ⟨0, 51, rfl, by decide, by decide, h⟩ | exact ⟨0, 50, rfl, by decide, by decide, h⟩ | exact ⟨9, 0, rfl, by decide, by decide, h⟩ | exact ⟨9, 51, rfl, by decide, by decide, h⟩ | exact ⟨9, 50, rfl, by decide, by decide, h⟩ | exact ⟨1, 0, rfl, by decide, by decide, h⟩ | exact ⟨1, 51, rfl, by decide, by decide, h⟩ | exact ⟨1, 50, rfl, by decide, by decide, h⟩
set_option maxHeartbeats 8000000 in
theorem drawTrain_any (ao : Option Addr) (n c : Nat) (w : World) (hnc : n ≤ c) (hn : n ≤ 9223372036854775807) (hB : BSl w ao n) :
    Calls Try.prog 13 #[.slice ao n c] w fun e w' => ∃ k a : Nat, e = .returned (.tuple #[.int .i64 k, .int .i64 a]) ∧ k ≤ 9 ∧ a ≤ 51 ∧ Below w.heap.size w w' := by
  have HBS := Lib.hid hB
  clear hB
  go_enter Try.func13, Try.ntmps13
  go_wp2_with fail
  refine (open_any ao n c _ hn hnc HBS.out).mono ?_
  rintro e w1 ⟨R, rfl, hR, hr1, hb1⟩
  have HR1 := Lib.hid hr1
  have HB1 := Lib.hid hb1
  clear hr1 hb1
  go_wp2_with fail
  refine (pickN_any R 0 10 _ (by omega) (by omega) HR1.out).mono ?_
  rintro e w2 ⟨u, rfl, hu, hr2, hg2⟩
  have HR2 := Lib.hid hr2
  have HB2 := Lib.hid (HB1.out.trans (below_of_grown hg2 hR HB1.out.size))
  have hl2 := hr2.lt
  have hne2 : w2.heap.size ≠ R := by omega
  have hne3 : w2.heap.size + 1 ≠ R := by omega
  clear hr2 hg2
  have hz2 : w.heap.size ≤ w2.heap.size := HB2.out.size
  by_cases h0 : u = 0
  · subst h0
    go_wp2_with fail
    go_region_with (first
      | (go_at_call 30; refine Calls.mono (pickN_any R 2 3 _ (by omega) (by omega) (by first | exact HRa.out | exact HRa.out.alloc _ | exact HRa.out.alloc2 _ _)) ?_; rintro e wb ⟨kb, rfl, hkb, hrb, hgb⟩; have hcb := gcell hgb; have hnb : wb.heap.size ≠ R := (by have := hrb.lt; omega); have hzb := hgb.size; (try simp only [World.size_alloc] at hzb); (try have hr1 : w2.heap.size < wb.heap.size := (by first | omega | (simp at hzb ⊢; omega))); (try have hr2 : w2.heap.size + 1 < wb.heap.size := (by first | omega | (simp at hzb ⊢; omega))); (try have hr3 : wa.heap.size < wb.heap.size := (by first | omega | (simp at hzb ⊢; omega))); (try have hr4 : wa.heap.size + 1 < wb.heap.size := (by first | omega | (simp at hzb ⊢; omega))); have HBb : Hid (Below w.heap.size w wb) := Below.trans (by repeat (first | exact HBa.out | refine Below.drew ?_ | refine Below.alloc ?_ (by first | omega | (simp; omega)) _)) (below_of_grown hgb hR (by first | omega | (simp; omega))); clear hgb hrb)
      | (go_at_call 30; refine Calls.mono (pickN_any R 1 3 _ (by omega) (by omega) (by first | exact HR2.out | exact HR2.out.alloc _ | exact HR2.out.alloc2 _ _)) ?_; rintro e wa ⟨ka, rfl, hka, hra, hga⟩; have hca := gcell hga; have hna : wa.heap.size ≠ R := (by have := hra.lt; omega); have hna1 : wa.heap.size + 1 ≠ R := (by have := hra.lt; omega); have hza := hga.size; (try simp only [World.size_alloc] at hza); (try have hq1 : w2.heap.size < wa.heap.size := (by first | omega | (simp at hza ⊢; omega))); (try have hq2 : w2.heap.size + 1 < wa.heap.size := (by first | omega | (simp at hza ⊢; omega))); (try have hq3 : w2.heap.size < wa.heap.size + 1 := (by first | omega | (simp at hza ⊢; omega))); (try have hq4 : w2.heap.size + 1 < wa.heap.size + 1 := (by first | omega | (simp at hza ⊢; omega))); (try have hq5 : w2.heap.size < wa.heap.size + 1 + 1 := (by first | omega | (simp at hza ⊢; omega))); have HRa := Lib.hid hra; have HBa : Hid (Below w.heap.size w wa) := Below.trans (by repeat (first | exact HB2.out | refine Below.drew ?_ | refine Below.alloc ?_ (by first | omega | (simp; omega)) _)) (below_of_grown hga hR (by first | omega | (simp; omega))); have hza2 : w.heap.size ≤ wa.heap.size := HBa.out.size; clear hga hra))
    all_goals
      have hzb2 := HBb.out.size
      go_wp2_with fail
      go_ret2
      exact drTrain_end hka hkb (by repeat (first | exact HBb.out | refine Below.drew ?_ | refine Below.alloc ?_ (by first | omega | (simp; omega)) _))
  · have h0' : ((u : Int) == 0) = false := by simp; omega
    clear h0
    go_wp2_with fail
    refine (pickN_any R 1 8 _ (by omega) (by omega) HR2.out).mono ?_
    rintro e wa ⟨ka, rfl, hka, hra, hga⟩
    have HRa := Lib.hid hra
    have HBa := Lib.hid (HB2.out.trans (below_of_grown hga hR HB2.out.size))
    clear hra hga
    go_wp2_with fail
    refine (pickN_any R 2 8 _ (by omega) (by omega) HRa.out).mono ?_
    rintro e wb ⟨kb, rfl, hkb, hrb, hgb⟩
    have HBb := Lib.hid (HBa.out.trans (below_of_grown hgb hR HBa.out.size))
    clear hrb hgb
    go_wp2_with fail
    go_ret2
    exact ⟨1 + ka, 1 + kb, by simp, by omega, by omega, HBb.out⟩
end Go.Proofs.Ytlflkkigagdilaa
