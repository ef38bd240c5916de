/-
  The law FnWait: plain, and the walk.
-/
import Derived.Test.YtnhkijfibiffnaaDo
import Derived.Test.YtnhkijfibiffnaaLBe
import Derived.Test.YtnhkijfibiffnaaLSm
namespace Go.Proofs.Ytnhkijfibiffnaa
open Go.RowKit

theorem waitV_neg {x : Sg} {s : ByteArray} (h : ¬ waitV x s < 0) : stOk x s = true := by
  cases h1 : stOk x s
  · rw [waitV_no h1] at h; omega
  · rfl
theorem ord_at {x : Sg} {s : ByteArray} (h : stOk x s = true) : ∃ k, k < pasc x.na x.nb ∧ ordS x k = s := by
  obtain ⟨r, _, hr, he⟩ := nth_rank h
  refine ⟨r, hr, ?_⟩
  unfold nthFull at he
  rw [Int.toNat_natCast] at he
  exact he
theorem wait_least {x : Sg} {s : ByteArray} (h : stOk x s = true) : waitV x (bestS x) ≤ waitV x s := by
  have hs : sgOk x = true := by simp only [stOk, Bool.and_eq_true] at h; exact h.1
  obtain ⟨k, hk, rfl⟩ := ord_at h
  rw [bestS_yes hs]
  exact best_min hk
theorem end_least {x : Sg} {s : ByteArray} (h : stOk x s = true) : soonV x ≤ endV x s := by
  have hs : sgOk x = true := by simp only [stOk, Bool.and_eq_true] at h; exact h.1
  obtain ⟨k, hk, rfl⟩ := ord_at h
  rw [soonV_yes hs]
  exact fstMin_min (fE x) (pasc x.na x.nb - 1) k (by omega)

set_option maxRecDepth 100000 in
set_option maxHeartbeats 4000000 in
theorem lawWait_any3 (ao : Option Addr) (n c : Nat) (w : World) (hB : BSl w ao n) (hnc : n ≤ c) (hn : n ≤ 9223372036854775807) :
    Calls Try.prog 13 #[.slice ao n c] w fun e w' => e = .returned (.bool true) ∧ Below w.heap.size w w' := by
  have HBS := Lib.hid hB
  clear hB
  by_cases hlong : 1048576 < n
  · go_enter Try.func13, Try.ntmps13
    go_wp2_with fail
    go_ret
    exact ⟨rfl, Below.refl _ _⟩
  go_enter Try.func13, Try.ntmps13
  go_wp2_with fail
  refine (drawWait_any ao n c _ hnc hn HBS.out).mono ?_
  rintro e w1 ⟨v, x, s, rfl, hF, hL, hs, hb1⟩
  have HF := Lib.hid hF
  have HBw := Lib.hid hb1
  have hz1 := hb1.size
  have hna := hL.na
  have hnb := hL.nb
  have HLL := Lib.hid hL
  obtain ⟨ga, ca, gb, cb, rfl, _⟩ := hF
  clear hb1 hL
  have HB0 : Hid (Below (w1.heap.size + 1) (w1.alloc (.cells #[.slice (some ⟨ga, 0, none⟩) x.na ca, .slice (some ⟨gb, 0, none⟩) x.nb cb, .int .i64 x.run, .int .i64 x.head] 25)) (w1.alloc (.cells #[.slice (some ⟨ga, 0, none⟩) x.na ca, .slice (some ⟨gb, 0, none⟩) x.nb cb, .int .i64 x.run, .int .i64 x.head] 25))) := Below.refl _ _
  have hbx := box_cells HB0.out (by omega)
  go_wp2_with fail
  refine (implWait_any _ x _ s (by omega) (sg_at HF.out HB0.out) (by omega) (by omega)).mono ?_
  rintro e w2 ⟨rfl, hb⟩
  have HB2 := Lib.hid (HB0.out.trans (hb.mono (by have := HB0.out.size; simp at this ⊢ <;> omega)))
  clear hb hbx
  have hbx := box_cells HB2.out (by omega)
  go_wp2_with fail
  refine (specWait_any _ x _ s (by omega) (sg_at HF.out HB2.out) (by omega) (by omega)).mono ?_
  rintro e w3 ⟨rfl, hb⟩
  have HB3 := Lib.hid (HB2.out.trans (hb.mono (by have := HB2.out.size; simp at this ⊢ <;> omega)))
  clear hb hbx
  have hbx := box_cells HB3.out (by omega)
  have gne : ∀ a : Int, (a != a) = false := fun a => by simp
  have geq : ∀ a : Int, (a == a) = true := fun a => by simp
  by_cases hneg : waitV x s < 0
  · go_wp2_with fail
    go_ret
    exact ⟨rfl, law_end HBw.out HB3.out⟩
  have hok := waitV_neg hneg
  have HK := Lib.hid hok
  have hx := (stOk_parts hok).1
  have ho := (stOk_parts hok).2
  have HWL := Lib.hid (wait_least hok)
  have HEL := Lib.hid (end_least hok)
  have HWS := Lib.hid (waitV_sum hok)
  have HSG : Hid (sgOk x = true) := by simp only [stOk, Bool.and_eq_true] at hok; exact hok.1
  have b1 := sumTo_bd' (stT x (bt s)) 10000 s.size (fun k hk => by have := stT_bd hx ho k hk; omega) s.size (Nat.le_refl _)
  have b2 := sumTo_bd' x.A 10000 x.na (fun k hk => by have := hx.A k hk; omega) x.na (Nat.le_refl _)
  have b3 := sumTo_bd' x.B 10000 x.nb (fun k hk => by have := hx.B k hk; omega) x.nb (Nat.le_refl _)
  have HX := Lib.hid hx
  have HOO := Lib.hid ho
  clear hok hx ho
  go_wp2_with fail
  refine (implStarts_any _ x _ s (by omega) (sg_at HF.out HB3.out) (by omega) (by omega)).mono ?_
  rintro e w4 ⟨gS, cS, rfl, hg, hO, hb4⟩
  rw [stN_yes HK.out] at hO
  rw [stN_yes HK.out, HK.out]
  have HO := Lib.hid hO
  have hsz4 := hO.lt
  have HB4 := Lib.hid (HB3.out.trans (hb4.mono (by have := HB3.out.size; simp at this ⊢ <;> omega)))
  clear hb4 hbx hO
  have hbx := box_cells HB4.out (by omega)
  go_wp2_with fail
  refine (implBest_any _ x _ (sg_at HF.out HB4.out) (by omega) (by omega)).mono ?_
  rintro e w5 ⟨rfl, hb5⟩
  have HIS : Hid (IC w5 gS 0 s.size (stT x (bt s))) := (IC.of_own HO.out).keep hb5
  have HB5 := Lib.hid (HB4.out.trans (hb5.mono (by have := HB4.out.size; simp at this ⊢ <;> omega)))
  have hz5 : w1.heap.size + 1 ≤ w5.heap.size := by have := HB5.out.size; simpa using this
  rw [HSG.out]
  have hsb : (bestS x).size ≤ 12 := by
    rw [bestS_yes HSG.out, ordS_size]; omega
  clear hb5 hbx
  have hbx := box_cells HB5.out (by omega)
  have HFr : Hid (SgF w.heap.size w5 (.agg #[.slice (some ⟨ga, 0, none⟩) x.na ca, .slice (some ⟨gb, 0, none⟩) x.nb cb, .int .i64 x.run, .int .i64 x.head]) x) := HF.out.keep ((below_all _ _).trans (HB5.out.mono (by omega)))
  have HOW := Lib.hid HFr.out.owns
  have HIA : Hid (IC w5 ga 0 x.na x.A) := IC.of_own HOW.out.1
  have HIB : Hid (IC w5 gb 0 x.nb x.B) := IC.of_own HOW.out.2
  clear HOW HFr
  have HbS : Hid (∀ k, k < s.size → -1000000000 ≤ stT x (bt s) k ∧ stT x (bt s) k ≤ 1000000000) := fun k hk => by have := stT_bd HX.out HOO.out k hk; omega
  have HbA : Hid (∀ k, k < x.na → -1000000000 ≤ x.A k ∧ x.A k ≤ 1000000000) := fun k hk => by have := HX.out.A k hk; omega
  have HbB : Hid (∀ k, k < x.nb → -1000000000 ≤ x.B k ∧ x.B k ≤ 1000000000) := fun k hk => by have := HX.out.B k hk; omega
  have hw1 : IntKind.i64.wrap (sumTo (stT x (bt s)) s.size - sumTo x.A x.na) = sumTo (stT x (bt s)) s.size - sumTo x.A x.na := IntWalk.i64_in _ (by omega)
  have hw2 : IntKind.i64.wrap (sumTo (stT x (bt s)) s.size - sumTo x.A x.na - sumTo x.B x.nb) = sumTo (stT x (bt s)) s.size - sumTo x.A x.na - sumTo x.B x.nb := IntWalk.i64_in _ (by omega)
  have q1 : (waitV x s == sumTo (stT x (bt s)) s.size - sumTo x.A x.na - sumTo x.B x.nb) = true := by rw [HWS.out]; simp
  have q2 : decide (waitV x (bestS x) ≤ waitV x s) = true := decide_eq_true HWL.out
  have q3 : decide (soonV x ≤ endV x s) = true := decide_eq_true HEL.out
  clear b1 b2 b3
  go_wp2_with fail
  go_region_held3 (fun w' => w'.cell? ⟨w1.heap.size, 0, none⟩ = some (.slice (some ⟨ga, 0, none⟩) x.na ca) ∧ w'.cell? ⟨w1.heap.size, 1, none⟩ = some (.slice (some ⟨gb, 0, none⟩) x.nb cb) ∧
      w'.cell? ⟨w1.heap.size, 2, none⟩ = some (.int .i64 x.run) ∧ w'.cell? ⟨w1.heap.size, 3, none⟩ = some (.int .i64 x.head)) (go_keep)
    (first | (go_at_call_of 51 (Value.slice (some ⟨gS, 0, none⟩) s.size cS); go_must (refine Calls.mono (lawsSum_any gS 0 s.size cS (stT x (bt s)) _ (by omega) HbS.out (by exact HIS.out)) ?_); rintro e w6 ⟨rfl, rfl⟩)
           | (go_at_call_of 51 (Value.slice (some ⟨ga, 0, none⟩) x.na ca); go_must (refine Calls.mono (lawsSum_any ga 0 x.na ca x.A _ (by omega) HbA.out (by exact HIA.out)) ?_); rintro e w6 ⟨rfl, rfl⟩)
           | (go_at_call_of 51 (Value.slice (some ⟨gb, 0, none⟩) x.nb cb); go_must (refine Calls.mono (lawsSum_any gb 0 x.nb cb x.B _ (by omega) HbB.out (by exact HIB.out)) ?_); rintro e w6 ⟨rfl, rfl⟩)
           | (go_at_call 27; go_must (refine Calls.mono (implWait_any _ x _ (bestS x) (by omega) (sg_at HF.out (by first | exact HB5.out | exact (HB5.out).drew | exact (HB5.out).drew.drew | exact (HB5.out).drew.drew.drew | exact (HB5.out).drew.drew.drew.drew | exact (HB5.out).drew.drew.drew.drew.drew | exact (HB5.out).drew.drew.drew.drew.drew.drew | exact (HB5.out).drew.drew.drew.drew.drew.drew.drew | exact (HB5.out).drew.drew.drew.drew.drew.drew.drew.drew)) (by omega) (by omega)) ?_); rintro e w7 ⟨rfl, hb7⟩; go_must (have HB7 : Hid (Below (w1.heap.size + 1) (w1.alloc (.cells #[.slice (some ⟨ga, 0, none⟩) x.na ca, .slice (some ⟨gb, 0, none⟩) x.nb cb, .int .i64 x.run, .int .i64 x.head] 25)) w7) := Below.trans (by first | exact HB5.out | exact (HB5.out).drew | exact (HB5.out).drew.drew | exact (HB5.out).drew.drew.drew | exact (HB5.out).drew.drew.drew.drew | exact (HB5.out).drew.drew.drew.drew.drew | exact (HB5.out).drew.drew.drew.drew.drew.drew | exact (HB5.out).drew.drew.drew.drew.drew.drew.drew | exact (HB5.out).drew.drew.drew.drew.drew.drew.drew.drew) (hb7.mono (by first | omega | (simp; done) | (simp; omega)))); have hz7 : w1.heap.size + 1 ≤ w7.heap.size := (by have := HB7.out.size; simpa using this); clear hb7; go_must (have hx7 := box_cells HB7.out (by omega)))
           | (go_at_call 28; go_must (refine Calls.mono (implEnd_any _ x _ s (by omega) (sg_at HF.out (by first | exact HB7.out | exact (HB7.out).drew | exact (HB7.out).drew.drew | exact (HB7.out).drew.drew.drew | exact (HB7.out).drew.drew.drew.drew | exact (HB7.out).drew.drew.drew.drew.drew | exact (HB7.out).drew.drew.drew.drew.drew.drew | exact (HB7.out).drew.drew.drew.drew.drew.drew.drew | exact (HB7.out).drew.drew.drew.drew.drew.drew.drew.drew)) (by omega) (by omega)) ?_); rintro e w8 ⟨rfl, hb8⟩; go_must (have HB8 : Hid (Below (w1.heap.size + 1) (w1.alloc (.cells #[.slice (some ⟨ga, 0, none⟩) x.na ca, .slice (some ⟨gb, 0, none⟩) x.nb cb, .int .i64 x.run, .int .i64 x.head] 25)) w8) := Below.trans (by first | exact HB7.out | exact (HB7.out).drew | exact (HB7.out).drew.drew | exact (HB7.out).drew.drew.drew | exact (HB7.out).drew.drew.drew.drew | exact (HB7.out).drew.drew.drew.drew.drew | exact (HB7.out).drew.drew.drew.drew.drew.drew | exact (HB7.out).drew.drew.drew.drew.drew.drew.drew | exact (HB7.out).drew.drew.drew.drew.drew.drew.drew.drew) (hb8.mono (by first | omega | (simp; done) | (simp; omega)))); have hz8 : w1.heap.size + 1 ≤ w8.heap.size := (by have := HB8.out.size; simpa using this); clear hb8; go_must (have hx8 := box_cells HB8.out (by omega)))
           | (go_at_call 29; go_must (refine Calls.mono (implSoon_any _ x _ (sg_at HF.out (by first | exact HB8.out | exact (HB8.out).drew | exact (HB8.out).drew.drew | exact (HB8.out).drew.drew.drew | exact (HB8.out).drew.drew.drew.drew | exact (HB8.out).drew.drew.drew.drew.drew | exact (HB8.out).drew.drew.drew.drew.drew.drew | exact (HB8.out).drew.drew.drew.drew.drew.drew.drew | exact (HB8.out).drew.drew.drew.drew.drew.drew.drew.drew)) (by omega) (by omega)) ?_); rintro e w9 ⟨rfl, hb9⟩; go_must (have HB9 : Hid (Below (w1.heap.size + 1) (w1.alloc (.cells #[.slice (some ⟨ga, 0, none⟩) x.na ca, .slice (some ⟨gb, 0, none⟩) x.nb cb, .int .i64 x.run, .int .i64 x.head] 25)) w9) := Below.trans (by first | exact HB8.out | exact (HB8.out).drew | exact (HB8.out).drew.drew | exact (HB8.out).drew.drew.drew | exact (HB8.out).drew.drew.drew.drew | exact (HB8.out).drew.drew.drew.drew.drew | exact (HB8.out).drew.drew.drew.drew.drew.drew | exact (HB8.out).drew.drew.drew.drew.drew.drew.drew | exact (HB8.out).drew.drew.drew.drew.drew.drew.drew.drew) (hb9.mono (by first | omega | (simp; done) | (simp; omega)))); have hz9 : w1.heap.size + 1 ≤ w9.heap.size := (by have := HB9.out.size; simpa using this); clear hb9; go_must (have hx9 := box_cells HB9.out (by omega))))
  go_wp2_with fail
  go_ret
  exact ⟨rfl, law_end HBw.out HB9.out⟩
end Go.Proofs.Ytnhkijfibiffnaa
