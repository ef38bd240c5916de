/-
  The law FnSingleMany: plain, and the walk.
-/
import Derived.Test.YtnhkijfibiffnaaDs
import Derived.Test.YtnhkijfibiffnaaQ
namespace Go.Proofs.Ytnhkijfibiffnaa
open Go.RowKit

theorem rdy_of {n : Nat} {f : Nat → Int} (hn : n ≤ 6) (h : ∀ k, k < n → rdB f k = true) : rdy n f = true := by rw [rdy_end h]; simpa using hn
theorem rdy_all {n : Nat} {f : Nat → Int} (h : rdy n f = true) : ∀ k, k < n → rdB f k = true := by
  simp only [rdy, Bool.and_eq_true] at h
  exact allB_true.1 h.1
theorem rdy_tail {n : Nat} {f : Nat → Int} (h : rdy (n + 1) f = true) : rdy n (fun i => f (i + 1)) = true := by
  refine rdy_of (by have := rdy_le h; omega) (fun k hk => ?_)
  have h1 := rdy_bd h (k + 1) (by omega)
  have h2 := rdy_all h (k + 1) (by omega)
  unfold rdB at h2 ⊢
  rw [if_neg (by omega)] at h2
  cases k with
  | zero => exact inB_true.2 ⟨by simpa using h1.1, h1.2⟩
  | succ k =>
    rw [if_neg (by omega)]
    exact h2
def tailA (x : Sg) : Sg := ⟨fun i => x.A (i + 1), x.na - 1, x.B, x.nb, x.run, x.head⟩
def tailB (x : Sg) : Sg := ⟨x.A, x.na, fun i => x.B (i + 1), x.nb - 1, x.run, x.head⟩
theorem tailA_ok {x : Sg} (h : sgOk x = true) (hn : 0 < x.na) : sgOk (tailA x) = true := by
  simp only [sgOk, Bool.and_eq_true] at h ⊢
  have h1 := h.1
  rw [show x.na = (x.na - 1) + 1 from by omega] at h1
  exact ⟨rdy_tail h1, h.2⟩
theorem tailB_ok {x : Sg} (h : sgOk x = true) (hn : 0 < x.nb) : sgOk (tailB x) = true := by
  simp only [sgOk, Bool.and_eq_true] at h ⊢
  have h1 := h.2.1
  rw [show x.nb = (x.nb - 1) + 1 from by omega] at h1
  exact ⟨h.1, rdy_tail h1, h.2.2⟩
theorem many_split {x : Sg} (h : sgOk x = true) (ha : 0 < x.na) (hb : 0 < x.nb) : manyV x = manyV (tailA x) + manyV (tailB x) := by
  rw [manyV_yes h, manyV_yes (tailA_ok h ha), manyV_yes (tailB_ok h hb)]
  have h1 := pasc_step (x.na - 1) (x.nb - 1)
  have e1 : x.na - 1 + 1 = x.na := by omega
  have e2 : x.nb - 1 + 1 = x.nb := by omega
  rw [e1, e2] at h1
  show (pasc x.na x.nb : Int) = (pasc (x.na - 1) x.nb : Int) + (pasc x.na (x.nb - 1) : Int)
  omega
theorem manyV_bd {x : Sg} : -1 ≤ manyV x ∧ manyV x ≤ 4096 := by
  cases hs : sgOk x
  · rw [manyV_no hs]; omega
  · rw [manyV_yes hs]; have := sgOk_le hs; have := pasc_le x.na x.nb (by omega); omega
/-- the first train struck -/
theorem ic_tail {w : World} {g cap n : Nat} {t : TypeId} {f : Nat → Int} (h : Own w g cap n 1 t (fun i => .int .i64 (f i))) : IC w g 1 (n - 1) (fun i => f (i + 1)) := fun k hk => by
  rw [show 1 + k = k + 1 from by omega]
  exact h.cell1 (by omega)

theorem SgF.owns {base : Nat} {w : World} {ga na ca gb nb cb : Nat} {run head : Int} {x : Sg} (h : SgF base w (.agg #[.slice (some ⟨ga, 0, none⟩) na ca, .slice (some ⟨gb, 0, none⟩) nb cb, .int .i64 run, .int .i64 head]) x) :
    Own w ga ca x.na 1 3 (fun i => .int .i64 (x.A i)) ∧ Own w gb cb x.nb 1 3 (fun i => .int .i64 (x.B i)) := by
  obtain ⟨_, _, _, _, he, _, _, _, h1, h2⟩ := h
  simp only [Value.agg.injEq, Array.mk.injEq, List.cons.injEq, Value.slice.injEq, Option.some.injEq, Addr.mk.injEq, and_true] at he
  obtain ⟨⟨rfl, _, rfl⟩, ⟨rfl, _, rfl⟩, _⟩ := he
  exact ⟨h1, h2⟩
theorem Bx.belowD {w W w' : World} {b B : Nat} {t : TypeId} {cs : Array Value} (h : Bx w b t cs) (e : W.heap = w.heap) (hb : Below B W w') (hlt : b < B) : Bx w' b t cs := by
  have := hb.block b hlt
  rw [e] at this
  exact this.trans h
set_option maxRecDepth 100000 in
set_option maxHeartbeats 2000000 in
theorem lawSMany_any (ao : Option Addr) (n c : Nat) (w : World) (hB : BSl w ao n) (hnc : n ≤ c) (hn : n ≤ 9223372036854775807) :
    Calls Try.prog 3 #[.slice ao n c] w fun e w' => e = .returned (.bool true) ∧ Below w.heap.size w w' := by
  have HBS := Lib.hid hB
  clear hB
  by_cases hlong : 1048576 < n
  · go_enter Try.func3, Try.ntmps3
    go_wp2_with fail
    go_ret
    exact ⟨rfl, Below.refl _ _⟩
  go_enter Try.func3, Try.ntmps3
  go_wp2_with fail
  refine (drawMany_any ao n c _ hnc hn HBS.out).mono ?_
  rintro e w1 ⟨v, x, rfl, hF, hL, hb1⟩
  have HF := Lib.hid hF
  have HB1 := Lib.hid hb1
  have hz1 := hb1.size
  have hna := hL.na
  have hnb := hL.nb
  obtain ⟨ga, ca, gb, cb, rfl, _⟩ := hF
  have hmb := manyV_bd (x := x)
  clear hb1 hL
  go_wp2_with fail
  refine (implMany_any _ x _ (HF.out.reads.keep (below_all _ _)) (by omega) (by omega)).mono ?_
  rintro e w2 ⟨rfl, hb2⟩
  rw [World.size_alloc] at hb2
  have hX2 := (Bx.new w1 25 #[.slice (some ⟨ga, 0, none⟩) x.na ca, .slice (some ⟨gb, 0, none⟩) x.nb cb, .int .i64 x.run, .int .i64 x.head]).below hb2 (by omega)
  have HX2 := Lib.hid hX2
  have HB2 : Hid (Below w1.heap.size w1 w2) := (below_all _ _).trans (hb2.mono (by omega))
  have hc2 := hX2.cell
  have hz2 : w1.heap.size + 1 ≤ w2.heap.size := by have := hb2.size; simpa using this
  clear hb2 hX2
  go_wp2_with fail
  refine (specMany_any _ x _ (HF.out.reads.keep HB2.out) (by omega) (by omega)).mono ?_
  rintro e w3 ⟨rfl, hb3⟩
  have hX3 := HX2.out.below hb3 (by omega)
  have HX3 := Lib.hid hX3
  have hc3 := hX3.cell
  have HB3 : Hid (Below w1.heap.size w1 w3) := HB2.out.trans (hb3.mono (by omega))
  have hz3 := hb3.size
  clear hb3 hX3 hc2
  have gne : ∀ a : Int, (a != a) = false := fun a => by simp
  have geq : ∀ a : Int, (a == a) = true := fun a => by simp
  by_cases hneg : manyV x < 0
  · go_wp2_with fail
    go_ret
    exact ⟨rfl, HB1.out.trans (HB3.out.mono (by omega))⟩
  · have hok : sgOk x = true := by
      cases hs : sgOk x
      · rw [manyV_no hs] at hneg; omega
      · rfl
    have HK := Lib.hid hok
    clear hok
    by_cases ha0 : x.na = 0
    · have a0 : ((x.na : Int) == 0) = true := by simp; omega
      have hm1 : (manyV x == 1) = true := by rw [manyV_yes HK.out, ha0, pasc_left]; rfl
      clear ha0
      go_wp2_with fail
      go_ret
      exact ⟨rfl, HB1.out.trans (HB3.out.mono (by omega))⟩
    have a0 : ((x.na : Int) == 0) = false := by simp; omega
    by_cases hb0 : x.nb = 0
    · have b0 : ((x.nb : Int) == 0) = true := by simp; omega
      have hm1 : (manyV x == 1) = true := by rw [manyV_yes HK.out, hb0, pasc_right]; rfl
      clear hb0 ha0
      go_wp2_with fail
      go_ret
      exact ⟨rfl, HB1.out.trans (HB3.out.mono (by omega))⟩
    have b0 : ((x.nb : Int) == 0) = false := by simp; omega
    have hca : x.na ≤ ca ∧ x.nb ≤ cb := by
      obtain ⟨_, _, _, _, he, _, _, _, h1, h2⟩ := HF.out
      simp only [Value.agg.injEq, Array.mk.injEq, List.cons.injEq, Value.slice.injEq, Option.some.injEq, Addr.mk.injEq, and_true, true_and] at he
      obtain ⟨⟨rfl, rfl⟩, ⟨rfl, rfl⟩⟩ := he
      exact ⟨h1.1, h2.1⟩
    obtain ⟨hca1, hca2⟩ := hca
    have HSP := Lib.hid (many_split HK.out (by omega) (by omega))
    have i1 : (1 : Int) ≤ (x.na : Int) := by omega
    have i2 : (1 : Int) ≤ (x.nb : Int) := by omega
    have i3 : (x.na : Int) ≤ (ca : Int) := by omega
    have i4 : (x.nb : Int) ≤ (cb : Int) := by omega
    clear ha0 hb0
    have hown := Lib.hid (HF.out.keep HB3.out)
    by_cases hc1 : ca = 1
    · have hn1 : x.na = 1 := by omega
      have HN1 := Lib.hid hn1
      subst hc1
      clear hn1
      by_cases hd1 : cb = 1
      · have hn2 : x.nb = 1 := by omega
        have HN2 := Lib.hid hn2
        subst hd1
        clear hn2
        have HIC := hown.out.owns
        have HVA : Hid (SgV w3 (.agg #[.slice (some ⟨ga, 0, none⟩) 0 0, .slice (some ⟨gb, 0, none⟩) x.nb 1, .int .i64 x.run, .int .i64 x.head]) (tailA x)) := ⟨ga, 0, 0, gb, 0, 1, (by simp [tailA, HN1.out]), (fun k hk => by have := HN1.out; simp only [tailA] at hk; omega), IC.of_own HIC.2⟩
        have HVB : Hid (SgV w3 (.agg #[.slice (some ⟨ga, 0, none⟩) x.na 1, .slice (some ⟨gb, 0, none⟩) 0 0, .int .i64 x.run, .int .i64 x.head]) (tailB x)) := ⟨ga, 0, 1, gb, 0, 0, (by simp [tailB, HN2.out]), IC.of_own HIC.1, (fun k hk => by have := HN2.out; simp only [tailB] at hk; omega)⟩
        have HXA : Hid (∀ o, Bx ((w3.alloc (.cells #[.slice (some ⟨ga, 0, none⟩) 0 0, .slice (some ⟨gb, 0, none⟩) x.nb 1, .int .i64 x.run, .int .i64 x.head] 25)).alloc o) w3.heap.size 25 #[.slice (some ⟨ga, 0, none⟩) 0 0, .slice (some ⟨gb, 0, none⟩) x.nb 1, .int .i64 x.run, .int .i64 x.head]) := fun o => (Bx.new _ _ _).alloc _
        have HXB : Hid (∀ o, Bx ((w3.alloc o).alloc (.cells #[.slice (some ⟨ga, 0, none⟩) x.na 1, .slice (some ⟨gb, 0, none⟩) 0 0, .int .i64 x.run, .int .i64 x.head] 25)) (w3.heap.size + 1) 25 #[.slice (some ⟨ga, 0, none⟩) x.na 1, .slice (some ⟨gb, 0, none⟩) 0 0, .int .i64 x.run, .int .i64 x.head]) := fun o => Bx.newAt (by simp)
        have HBA : Hid (∀ a b, Below w3.heap.size w3 ((w3.alloc a).alloc b)) := fun a b => ((Below.refl _ _).alloc (Nat.le_refl _) _).alloc (by simp) _
        have hmA := manyV_bd (x := tailA x)
        have hmB := manyV_bd (x := tailB x)
        have hcA := (HXA.out (.cells #[.slice (some ⟨ga, 0, none⟩) x.na 1, .slice (some ⟨gb, 0, none⟩) 0 0, .int .i64 x.run, .int .i64 x.head] 25)).cell
        clear HIC
        go_wp2_with fail
        go_region_held3 (fun w' => w'.cell? ⟨w1.heap.size, 0, none⟩ = some (.slice (some ⟨ga, 0, none⟩) x.na 1) ∧ w'.cell? ⟨w1.heap.size, 1, none⟩ = some (.slice (some ⟨gb, 0, none⟩) x.nb 1) ∧
            w'.cell? ⟨w1.heap.size, 2, none⟩ = some (.int .i64 x.run) ∧ w'.cell? ⟨w1.heap.size, 3, none⟩ = some (.int .i64 x.head)) (go_keep) (fail)
        go_wp2_with fail
        go_region_held3 (fun w' => w'.cell? ⟨w1.heap.size, 0, none⟩ = some (.slice (some ⟨ga, 0, none⟩) x.na 1) ∧ w'.cell? ⟨w1.heap.size, 1, none⟩ = some (.slice (some ⟨gb, 0, none⟩) x.nb 1) ∧
            w'.cell? ⟨w1.heap.size, 2, none⟩ = some (.int .i64 x.run) ∧ w'.cell? ⟨w1.heap.size, 3, none⟩ = some (.int .i64 x.head)) (go_keep) (fail)
        go_wp2_with fail
        have hweq : (manyV x == manyV (tailA x) + manyV (tailB x)) = true := by rw [HSP.out]; simp
        have hwr : IntKind.i64.wrap (manyV (tailA x) + manyV (tailB x)) = manyV (tailA x) + manyV (tailB x) := IntWalk.i64_in _ (by omega)
        go_region_held3 (fun w' => w'.cell? ⟨w3.heap.size, 0, none⟩ = some (.slice (some ⟨ga, 0, none⟩) 0 0) ∧ w'.cell? ⟨w3.heap.size, 1, none⟩ = some (.slice (some ⟨gb, 0, none⟩) x.nb 1) ∧
            w'.cell? ⟨w3.heap.size, 2, none⟩ = some (.int .i64 x.run) ∧ w'.cell? ⟨w3.heap.size, 3, none⟩ = some (.int .i64 x.head) ∧
            w'.cell? ⟨w3.heap.size + 1, 0, none⟩ = some (.slice (some ⟨ga, 0, none⟩) x.na 1) ∧ w'.cell? ⟨w3.heap.size + 1, 1, none⟩ = some (.slice (some ⟨gb, 0, none⟩) 0 0) ∧
            w'.cell? ⟨w3.heap.size + 1, 2, none⟩ = some (.int .i64 x.run) ∧ w'.cell? ⟨w3.heap.size + 1, 3, none⟩ = some (.int .i64 x.head)) (go_keep)
          (first | (go_at_call_of 16 (Value.slice (some ⟨gb, 0, none⟩) x.nb 1); go_must (refine Calls.mono (implMany_any _ (tailA x) _ (HVA.out.keep (by exact (HBA.out _ _).drew.drew.drew)) (by show x.na - 1 ≤ _; omega) (by show x.nb ≤ _; omega)) ?_); rintro e w4 ⟨rfl, hb4⟩; go_must (have hx4A := ((HXA.out _).belowD (by rfl) hb4 (by first | omega | (simp; done) | (simp; omega))).cell); go_must (have hx4B := ((HXB.out _).belowD (by rfl) hb4 (by first | omega | (simp; done) | (simp; omega))).cell); go_must (have HB4 : Hid (Below w3.heap.size w3 w4) := Below.trans (by exact (HBA.out _ _).drew.drew.drew) (hb4.mono (by first | omega | (simp; done) | (simp; omega)))); have hz4 := hb4.size; clear hb4)
                 | (go_at_call 16; go_must (refine Calls.mono (implMany_any _ (tailB x) _ (HVB.out.keep HB4.out) (by show x.na ≤ _; omega) (by show x.nb - 1 ≤ _; omega)) ?_); rintro e w5 ⟨rfl, hb5⟩; go_must (have hx5A := box_keep hx4A hb5 (by first | omega | (simp at hz4 ⊢; omega))); go_must (have hx5B := box_keep hx4B hb5 (by first | omega | (simp at hz4 ⊢; omega)))))
        have hz5 := HB4.out.size
        go_wp2_with fail
        go_ret
        exact ⟨rfl, HB1.out.trans ((HB3.out.trans ((HB4.out.mono (by omega)).trans (hb5.mono (by omega)))).mono (by omega))⟩
      · have hd2 : (1 : Int) < (cb : Int) := by omega
        have HIC := hown.out.owns
        have HVA : Hid (SgV w3 (.agg #[.slice (some ⟨ga, 0, none⟩) 0 0, .slice (some ⟨gb, 0, none⟩) x.nb cb, .int .i64 x.run, .int .i64 x.head]) (tailA x)) := ⟨ga, 0, 0, gb, 0, cb, (by simp [tailA, HN1.out]), (fun k hk => by have := HN1.out; simp only [tailA] at hk; omega), IC.of_own HIC.2⟩
        have HVB : Hid (SgV w3 (.agg #[.slice (some ⟨ga, 0, none⟩) x.na 1, .slice (some ⟨gb, 1, none⟩) (x.nb - 1) (cb - 1), .int .i64 x.run, .int .i64 x.head]) (tailB x)) := ⟨ga, 0, 1, gb, 1, (cb - 1), rfl, IC.of_own HIC.1, (ic_tail HIC.2)⟩
        have HXA : Hid (∀ o, Bx ((w3.alloc (.cells #[.slice (some ⟨ga, 0, none⟩) 0 0, .slice (some ⟨gb, 0, none⟩) x.nb cb, .int .i64 x.run, .int .i64 x.head] 25)).alloc o) w3.heap.size 25 #[.slice (some ⟨ga, 0, none⟩) 0 0, .slice (some ⟨gb, 0, none⟩) x.nb cb, .int .i64 x.run, .int .i64 x.head]) := fun o => (Bx.new _ _ _).alloc _
        have HXB : Hid (∀ o, Bx ((w3.alloc o).alloc (.cells #[.slice (some ⟨ga, 0, none⟩) x.na 1, .slice (some ⟨gb, 1, none⟩) (x.nb - 1) (cb - 1), .int .i64 x.run, .int .i64 x.head] 25)) (w3.heap.size + 1) 25 #[.slice (some ⟨ga, 0, none⟩) x.na 1, .slice (some ⟨gb, 1, none⟩) (x.nb - 1) (cb - 1), .int .i64 x.run, .int .i64 x.head]) := fun o => Bx.newAt (by simp)
        have HBA : Hid (∀ a b, Below w3.heap.size w3 ((w3.alloc a).alloc b)) := fun a b => ((Below.refl _ _).alloc (Nat.le_refl _) _).alloc (by simp) _
        have hmA := manyV_bd (x := tailA x)
        have hmB := manyV_bd (x := tailB x)
        have hcA := (HXA.out (.cells #[.slice (some ⟨ga, 0, none⟩) x.na 1, .slice (some ⟨gb, 1, none⟩) (x.nb - 1) (cb - 1), .int .i64 x.run, .int .i64 x.head] 25)).cell
        clear HIC
        go_wp2_with fail
        go_region_held3 (fun w' => w'.cell? ⟨w1.heap.size, 0, none⟩ = some (.slice (some ⟨ga, 0, none⟩) x.na 1) ∧ w'.cell? ⟨w1.heap.size, 1, none⟩ = some (.slice (some ⟨gb, 0, none⟩) x.nb cb) ∧
            w'.cell? ⟨w1.heap.size, 2, none⟩ = some (.int .i64 x.run) ∧ w'.cell? ⟨w1.heap.size, 3, none⟩ = some (.int .i64 x.head)) (go_keep) (fail)
        go_wp2_with fail
        go_region_held3 (fun w' => w'.cell? ⟨w1.heap.size, 0, none⟩ = some (.slice (some ⟨ga, 0, none⟩) x.na 1) ∧ w'.cell? ⟨w1.heap.size, 1, none⟩ = some (.slice (some ⟨gb, 0, none⟩) x.nb cb) ∧
            w'.cell? ⟨w1.heap.size, 2, none⟩ = some (.int .i64 x.run) ∧ w'.cell? ⟨w1.heap.size, 3, none⟩ = some (.int .i64 x.head)) (go_keep) (fail)
        go_wp2_with fail
        have hweq : (manyV x == manyV (tailA x) + manyV (tailB x)) = true := by rw [HSP.out]; simp
        have hwr : IntKind.i64.wrap (manyV (tailA x) + manyV (tailB x)) = manyV (tailA x) + manyV (tailB x) := IntWalk.i64_in _ (by omega)
        go_region_held3 (fun w' => w'.cell? ⟨w3.heap.size, 0, none⟩ = some (.slice (some ⟨ga, 0, none⟩) 0 0) ∧ w'.cell? ⟨w3.heap.size, 1, none⟩ = some (.slice (some ⟨gb, 0, none⟩) x.nb cb) ∧
            w'.cell? ⟨w3.heap.size, 2, none⟩ = some (.int .i64 x.run) ∧ w'.cell? ⟨w3.heap.size, 3, none⟩ = some (.int .i64 x.head) ∧
            w'.cell? ⟨w3.heap.size + 1, 0, none⟩ = some (.slice (some ⟨ga, 0, none⟩) x.na 1) ∧ w'.cell? ⟨w3.heap.size + 1, 1, none⟩ = some (.slice (some ⟨gb, 1, none⟩) (x.nb - 1) (cb - 1)) ∧
            w'.cell? ⟨w3.heap.size + 1, 2, none⟩ = some (.int .i64 x.run) ∧ w'.cell? ⟨w3.heap.size + 1, 3, none⟩ = some (.int .i64 x.head)) (go_keep)
          (first | (go_at_call_of 16 (Value.slice (some ⟨gb, 0, none⟩) x.nb cb); go_must (refine Calls.mono (implMany_any _ (tailA x) _ (HVA.out.keep (by exact (HBA.out _ _).drew.drew.drew)) (by show x.na - 1 ≤ _; omega) (by show x.nb ≤ _; omega)) ?_); rintro e w4 ⟨rfl, hb4⟩; go_must (have hx4A := ((HXA.out _).belowD (by rfl) hb4 (by first | omega | (simp; done) | (simp; omega))).cell); go_must (have hx4B := ((HXB.out _).belowD (by rfl) hb4 (by first | omega | (simp; done) | (simp; omega))).cell); go_must (have HB4 : Hid (Below w3.heap.size w3 w4) := Below.trans (by exact (HBA.out _ _).drew.drew.drew) (hb4.mono (by first | omega | (simp; done) | (simp; omega)))); have hz4 := hb4.size; clear hb4)
                 | (go_at_call 16; go_must (refine Calls.mono (implMany_any _ (tailB x) _ (HVB.out.keep HB4.out) (by show x.na ≤ _; omega) (by show x.nb - 1 ≤ _; omega)) ?_); rintro e w5 ⟨rfl, hb5⟩; go_must (have hx5A := box_keep hx4A hb5 (by first | omega | (simp at hz4 ⊢; omega))); go_must (have hx5B := box_keep hx4B hb5 (by first | omega | (simp at hz4 ⊢; omega)))))
        have hz5 := HB4.out.size
        go_wp2_with fail
        go_ret
        exact ⟨rfl, HB1.out.trans ((HB3.out.trans ((HB4.out.mono (by omega)).trans (hb5.mono (by omega)))).mono (by omega))⟩
    · have hc2 : (1 : Int) < (ca : Int) := by omega
      by_cases hd1 : cb = 1
      · have hn2 : x.nb = 1 := by omega
        have HN2 := Lib.hid hn2
        subst hd1
        clear hn2
        have HIC := hown.out.owns
        have HVA : Hid (SgV w3 (.agg #[.slice (some ⟨ga, 1, none⟩) (x.na - 1) (ca - 1), .slice (some ⟨gb, 0, none⟩) x.nb 1, .int .i64 x.run, .int .i64 x.head]) (tailA x)) := ⟨ga, 1, (ca - 1), gb, 0, 1, rfl, (ic_tail HIC.1), IC.of_own HIC.2⟩
        have HVB : Hid (SgV w3 (.agg #[.slice (some ⟨ga, 0, none⟩) x.na ca, .slice (some ⟨gb, 0, none⟩) 0 0, .int .i64 x.run, .int .i64 x.head]) (tailB x)) := ⟨ga, 0, ca, gb, 0, 0, (by simp [tailB, HN2.out]), IC.of_own HIC.1, (fun k hk => by have := HN2.out; simp only [tailB] at hk; omega)⟩
        have HXA : Hid (∀ o, Bx ((w3.alloc (.cells #[.slice (some ⟨ga, 1, none⟩) (x.na - 1) (ca - 1), .slice (some ⟨gb, 0, none⟩) x.nb 1, .int .i64 x.run, .int .i64 x.head] 25)).alloc o) w3.heap.size 25 #[.slice (some ⟨ga, 1, none⟩) (x.na - 1) (ca - 1), .slice (some ⟨gb, 0, none⟩) x.nb 1, .int .i64 x.run, .int .i64 x.head]) := fun o => (Bx.new _ _ _).alloc _
        have HXB : Hid (∀ o, Bx ((w3.alloc o).alloc (.cells #[.slice (some ⟨ga, 0, none⟩) x.na ca, .slice (some ⟨gb, 0, none⟩) 0 0, .int .i64 x.run, .int .i64 x.head] 25)) (w3.heap.size + 1) 25 #[.slice (some ⟨ga, 0, none⟩) x.na ca, .slice (some ⟨gb, 0, none⟩) 0 0, .int .i64 x.run, .int .i64 x.head]) := fun o => Bx.newAt (by simp)
        have HBA : Hid (∀ a b, Below w3.heap.size w3 ((w3.alloc a).alloc b)) := fun a b => ((Below.refl _ _).alloc (Nat.le_refl _) _).alloc (by simp) _
        have hmA := manyV_bd (x := tailA x)
        have hmB := manyV_bd (x := tailB x)
        have hcA := (HXA.out (.cells #[.slice (some ⟨ga, 0, none⟩) x.na ca, .slice (some ⟨gb, 0, none⟩) 0 0, .int .i64 x.run, .int .i64 x.head] 25)).cell
        clear HIC
        go_wp2_with fail
        go_region_held3 (fun w' => w'.cell? ⟨w1.heap.size, 0, none⟩ = some (.slice (some ⟨ga, 0, none⟩) x.na ca) ∧ w'.cell? ⟨w1.heap.size, 1, none⟩ = some (.slice (some ⟨gb, 0, none⟩) x.nb 1) ∧
            w'.cell? ⟨w1.heap.size, 2, none⟩ = some (.int .i64 x.run) ∧ w'.cell? ⟨w1.heap.size, 3, none⟩ = some (.int .i64 x.head)) (go_keep) (fail)
        go_wp2_with fail
        go_region_held3 (fun w' => w'.cell? ⟨w1.heap.size, 0, none⟩ = some (.slice (some ⟨ga, 0, none⟩) x.na ca) ∧ w'.cell? ⟨w1.heap.size, 1, none⟩ = some (.slice (some ⟨gb, 0, none⟩) x.nb 1) ∧
            w'.cell? ⟨w1.heap.size, 2, none⟩ = some (.int .i64 x.run) ∧ w'.cell? ⟨w1.heap.size, 3, none⟩ = some (.int .i64 x.head)) (go_keep) (fail)
        go_wp2_with fail
        have hweq : (manyV x == manyV (tailA x) + manyV (tailB x)) = true := by rw [HSP.out]; simp
        have hwr : IntKind.i64.wrap (manyV (tailA x) + manyV (tailB x)) = manyV (tailA x) + manyV (tailB x) := IntWalk.i64_in _ (by omega)
        go_region_held3 (fun w' => w'.cell? ⟨w3.heap.size, 0, none⟩ = some (.slice (some ⟨ga, 1, none⟩) (x.na - 1) (ca - 1)) ∧ w'.cell? ⟨w3.heap.size, 1, none⟩ = some (.slice (some ⟨gb, 0, none⟩) x.nb 1) ∧
            w'.cell? ⟨w3.heap.size, 2, none⟩ = some (.int .i64 x.run) ∧ w'.cell? ⟨w3.heap.size, 3, none⟩ = some (.int .i64 x.head) ∧
            w'.cell? ⟨w3.heap.size + 1, 0, none⟩ = some (.slice (some ⟨ga, 0, none⟩) x.na ca) ∧ w'.cell? ⟨w3.heap.size + 1, 1, none⟩ = some (.slice (some ⟨gb, 0, none⟩) 0 0) ∧
            w'.cell? ⟨w3.heap.size + 1, 2, none⟩ = some (.int .i64 x.run) ∧ w'.cell? ⟨w3.heap.size + 1, 3, none⟩ = some (.int .i64 x.head)) (go_keep)
          (first | (go_at_call_of 16 (Value.slice (some ⟨gb, 0, none⟩) x.nb 1); go_must (refine Calls.mono (implMany_any _ (tailA x) _ (HVA.out.keep (by exact (HBA.out _ _).drew.drew.drew)) (by show x.na - 1 ≤ _; omega) (by show x.nb ≤ _; omega)) ?_); rintro e w4 ⟨rfl, hb4⟩; go_must (have hx4A := ((HXA.out _).belowD (by rfl) hb4 (by first | omega | (simp; done) | (simp; omega))).cell); go_must (have hx4B := ((HXB.out _).belowD (by rfl) hb4 (by first | omega | (simp; done) | (simp; omega))).cell); go_must (have HB4 : Hid (Below w3.heap.size w3 w4) := Below.trans (by exact (HBA.out _ _).drew.drew.drew) (hb4.mono (by first | omega | (simp; done) | (simp; omega)))); have hz4 := hb4.size; clear hb4)
                 | (go_at_call 16; go_must (refine Calls.mono (implMany_any _ (tailB x) _ (HVB.out.keep HB4.out) (by show x.na ≤ _; omega) (by show x.nb - 1 ≤ _; omega)) ?_); rintro e w5 ⟨rfl, hb5⟩; go_must (have hx5A := box_keep hx4A hb5 (by first | omega | (simp at hz4 ⊢; omega))); go_must (have hx5B := box_keep hx4B hb5 (by first | omega | (simp at hz4 ⊢; omega)))))
        have hz5 := HB4.out.size
        go_wp2_with fail
        go_ret
        exact ⟨rfl, HB1.out.trans ((HB3.out.trans ((HB4.out.mono (by omega)).trans (hb5.mono (by omega)))).mono (by omega))⟩
      · have hd2 : (1 : Int) < (cb : Int) := by omega
        have HIC := hown.out.owns
        have HVA : Hid (SgV w3 (.agg #[.slice (some ⟨ga, 1, none⟩) (x.na - 1) (ca - 1), .slice (some ⟨gb, 0, none⟩) x.nb cb, .int .i64 x.run, .int .i64 x.head]) (tailA x)) := ⟨ga, 1, (ca - 1), gb, 0, cb, rfl, (ic_tail HIC.1), IC.of_own HIC.2⟩
        have HVB : Hid (SgV w3 (.agg #[.slice (some ⟨ga, 0, none⟩) x.na ca, .slice (some ⟨gb, 1, none⟩) (x.nb - 1) (cb - 1), .int .i64 x.run, .int .i64 x.head]) (tailB x)) := ⟨ga, 0, ca, gb, 1, (cb - 1), rfl, IC.of_own HIC.1, (ic_tail HIC.2)⟩
        have HXA : Hid (∀ o, Bx ((w3.alloc (.cells #[.slice (some ⟨ga, 1, none⟩) (x.na - 1) (ca - 1), .slice (some ⟨gb, 0, none⟩) x.nb cb, .int .i64 x.run, .int .i64 x.head] 25)).alloc o) w3.heap.size 25 #[.slice (some ⟨ga, 1, none⟩) (x.na - 1) (ca - 1), .slice (some ⟨gb, 0, none⟩) x.nb cb, .int .i64 x.run, .int .i64 x.head]) := fun o => (Bx.new _ _ _).alloc _
        have HXB : Hid (∀ o, Bx ((w3.alloc o).alloc (.cells #[.slice (some ⟨ga, 0, none⟩) x.na ca, .slice (some ⟨gb, 1, none⟩) (x.nb - 1) (cb - 1), .int .i64 x.run, .int .i64 x.head] 25)) (w3.heap.size + 1) 25 #[.slice (some ⟨ga, 0, none⟩) x.na ca, .slice (some ⟨gb, 1, none⟩) (x.nb - 1) (cb - 1), .int .i64 x.run, .int .i64 x.head]) := fun o => Bx.newAt (by simp)
        have HBA : Hid (∀ a b, Below w3.heap.size w3 ((w3.alloc a).alloc b)) := fun a b => ((Below.refl _ _).alloc (Nat.le_refl _) _).alloc (by simp) _
        have hmA := manyV_bd (x := tailA x)
        have hmB := manyV_bd (x := tailB x)
        have hcA := (HXA.out (.cells #[.slice (some ⟨ga, 0, none⟩) x.na ca, .slice (some ⟨gb, 1, none⟩) (x.nb - 1) (cb - 1), .int .i64 x.run, .int .i64 x.head] 25)).cell
        clear HIC
        go_wp2_with fail
        go_region_held3 (fun w' => w'.cell? ⟨w1.heap.size, 0, none⟩ = some (.slice (some ⟨ga, 0, none⟩) x.na ca) ∧ w'.cell? ⟨w1.heap.size, 1, none⟩ = some (.slice (some ⟨gb, 0, none⟩) x.nb cb) ∧
            w'.cell? ⟨w1.heap.size, 2, none⟩ = some (.int .i64 x.run) ∧ w'.cell? ⟨w1.heap.size, 3, none⟩ = some (.int .i64 x.head)) (go_keep) (fail)
        go_wp2_with fail
        go_region_held3 (fun w' => w'.cell? ⟨w1.heap.size, 0, none⟩ = some (.slice (some ⟨ga, 0, none⟩) x.na ca) ∧ w'.cell? ⟨w1.heap.size, 1, none⟩ = some (.slice (some ⟨gb, 0, none⟩) x.nb cb) ∧
            w'.cell? ⟨w1.heap.size, 2, none⟩ = some (.int .i64 x.run) ∧ w'.cell? ⟨w1.heap.size, 3, none⟩ = some (.int .i64 x.head)) (go_keep) (fail)
        go_wp2_with fail
        have hweq : (manyV x == manyV (tailA x) + manyV (tailB x)) = true := by rw [HSP.out]; simp
        have hwr : IntKind.i64.wrap (manyV (tailA x) + manyV (tailB x)) = manyV (tailA x) + manyV (tailB x) := IntWalk.i64_in _ (by omega)
        go_region_held3 (fun w' => w'.cell? ⟨w3.heap.size, 0, none⟩ = some (.slice (some ⟨ga, 1, none⟩) (x.na - 1) (ca - 1)) ∧ w'.cell? ⟨w3.heap.size, 1, none⟩ = some (.slice (some ⟨gb, 0, none⟩) x.nb cb) ∧
            w'.cell? ⟨w3.heap.size, 2, none⟩ = some (.int .i64 x.run) ∧ w'.cell? ⟨w3.heap.size, 3, none⟩ = some (.int .i64 x.head) ∧
            w'.cell? ⟨w3.heap.size + 1, 0, none⟩ = some (.slice (some ⟨ga, 0, none⟩) x.na ca) ∧ w'.cell? ⟨w3.heap.size + 1, 1, none⟩ = some (.slice (some ⟨gb, 1, none⟩) (x.nb - 1) (cb - 1)) ∧
            w'.cell? ⟨w3.heap.size + 1, 2, none⟩ = some (.int .i64 x.run) ∧ w'.cell? ⟨w3.heap.size + 1, 3, none⟩ = some (.int .i64 x.head)) (go_keep)
          (first | (go_at_call_of 16 (Value.slice (some ⟨gb, 0, none⟩) x.nb cb); go_must (refine Calls.mono (implMany_any _ (tailA x) _ (HVA.out.keep (by exact (HBA.out _ _).drew.drew.drew)) (by show x.na - 1 ≤ _; omega) (by show x.nb ≤ _; omega)) ?_); rintro e w4 ⟨rfl, hb4⟩; go_must (have hx4A := ((HXA.out _).belowD (by rfl) hb4 (by first | omega | (simp; done) | (simp; omega))).cell); go_must (have hx4B := ((HXB.out _).belowD (by rfl) hb4 (by first | omega | (simp; done) | (simp; omega))).cell); go_must (have HB4 : Hid (Below w3.heap.size w3 w4) := Below.trans (by exact (HBA.out _ _).drew.drew.drew) (hb4.mono (by first | omega | (simp; done) | (simp; omega)))); have hz4 := hb4.size; clear hb4)
                 | (go_at_call 16; go_must (refine Calls.mono (implMany_any _ (tailB x) _ (HVB.out.keep HB4.out) (by show x.na ≤ _; omega) (by show x.nb - 1 ≤ _; omega)) ?_); rintro e w5 ⟨rfl, hb5⟩; go_must (have hx5A := box_keep hx4A hb5 (by first | omega | (simp at hz4 ⊢; omega))); go_must (have hx5B := box_keep hx4B hb5 (by first | omega | (simp at hz4 ⊢; omega)))))
        have hz5 := HB4.out.size
        go_wp2_with fail
        go_ret
        exact ⟨rfl, HB1.out.trans ((HB3.out.trans ((HB4.out.mono (by omega)).trans (hb5.mono (by omega)))).mono (by omega))⟩
end Go.Proofs.Ytnhkijfibiffnaa
