/-
  The law FnPathRun: plain, and the walk.
-/
import Derived.Test.YtlflkkigagdilaaPe
import Derived.Test.YtlflkkigagdilaaPf
import Derived.Test.YtlflkkigagdilaaPg
import Derived.Test.YtlflkkigagdilaaLPs
namespace Go.Proofs.Ytlflkkigagdilaa
open Go.RowKit

theorem sameInts_nil (w : World) :
    Calls Try.prog 11 #[.slice none 0 0, .slice none 0 0] w fun e w' => e = .returned (.bool true) ∧ Dr w w' := by
  go_enter Try.func11, Try.ntmps11
  go_wp2
  go_loopw [5] (fun i wr => i = .int .i64 0 ∧ Dr w wr) (fun _ _ => 0)
  case atStart => exact ⟨rfl, Dr.refl _⟩
  case round =>
    obtain ⟨rfl, q, rfl⟩ := hrel
    go_wp2
    go_ret
    exact ⟨rfl, (by repeat (first | exact Dr.refl _ | exact ⟨_, rfl⟩ | refine Dr.drewN ?_ _))⟩
theorem samePath_nil (w : World) :
    Calls Try.prog 21 #[.agg #[.slice none 0 0, .slice none 0 0], .agg #[.slice none 0 0, .slice none 0 0]] w fun e w' => e = .returned (.bool true) ∧ Below w.heap.size w w' := by
  have hbb : ∀ a b, Below w.heap.size w ((w.alloc a).alloc b) := fun a b => ((Below.refl _ _).alloc (Nat.le_refl _) _).alloc (by simp) _
  have HB := Lib.hid hbb
  clear hbb
  go_enter Try.func21, Try.ntmps21
  go_wp2_with fail
  refine (sameInts_nil _).mono ?_
  rintro e w1 ⟨rfl, q1, rfl⟩
  go_wp2_with fail
  refine (sameInts_nil _).mono ?_
  rintro e w1 ⟨rfl, q2, rfl⟩
  go_wp2_with fail
  go_ret
  exact ⟨rfl, (HB.out _ _).trans (below_dr (by repeat (first | exact Dr.refl _ | exact ⟨_, rfl⟩ | refine Dr.drewN ?_ _)) _)⟩
theorem eqPt_refl (p : Pt) : eqPt p p = true := by
  unfold eqPt
  rw [eqSl_true.2 ⟨rfl, fun _ _ => rfl⟩, eqSl_true.2 ⟨rfl, fun _ _ => rfl⟩]
  rfl
theorem run_stn (t : Int) (f : Nat → Int) (n : Nat) : ∀ k, stnF (runPt t f n) k = 0
  | 0 => rfl
  | k + 1 => by
    have ih := run_stn t f n k
    simp only [stnF]
    rw [ih]
    show 0 + ((t + sumTo f (k + 1)) - (t + sumTo f (k + 1))) = 0
    omega
theorem run_stnV {t : Int} {f : Nat → Int} {n : Nat} (h : runOk t f n = true) : stnV (runPt t f n) n = 0 := by
  rw [stnV_yes (runOk_parts h).2.2]
  exact run_stn _ _ _ _
/-- the runs and the first path -/
structure PrA (w W : World) (b5 : Nat) (c5 : Array Value) (v5 : Value) (p : Pt) (g off n : Nat) (f : Nat → Int) : Prop where
  x5 : Bx W b5 37 c5
  f5 : PtV W v5 p
  ic : IC W g off n f
  bl : Below w.heap.size w W
theorem PrA.below {w W W' : World} {b5 B : Nat} {c5 : Array Value} {v5 : Value} {p : Pt} {g off n : Nat} {f : Nat → Int} (h : PrA w W b5 c5 v5 p g off n f) (hb : Below B W W') (hB : B = W.heap.size) : PrA w W' b5 c5 v5 p g off n f := by
  subst hB
  exact ⟨h.x5.below hb h.x5.lt, h.f5.keep hb, h.ic.keep hb, h.bl.trans (hb.mono h.bl.size)⟩
theorem PrA.alloc {w W : World} {b5 : Nat} {c5 : Array Value} {v5 : Value} {p : Pt} {g off n : Nat} {f : Nat → Int} (h : PrA w W b5 c5 v5 p g off n f) (o : Obj) : PrA w (W.alloc o) b5 c5 v5 p g off n f := h.below (below_all _ _) rfl
theorem PrA.drew {w W : World} {b5 : Nat} {c5 : Array Value} {v5 : Value} {p : Pt} {g off n : Nat} {f : Nat → Int} (h : PrA w W b5 c5 v5 p g off n f) : PrA w W.drew b5 c5 v5 p g off n f := h.below (B := W.heap.size) (Below.refl _ W).drew rfl
/-- and a second one -/
structure PrB (w W : World) (b5 b7 : Nat) (c5 c7 : Array Value) (v5 v7 : Value) (p : Pt) (g off n : Nat) (f : Nat → Int) : Prop where
  a : PrA w W b5 c5 v5 p g off n f
  x7 : Bx W b7 37 c7
  f7 : PtV W v7 p
theorem PrB.below {w W W' : World} {b5 b7 B : Nat} {c5 c7 : Array Value} {v5 v7 : Value} {p : Pt} {g off n : Nat} {f : Nat → Int} (h : PrB w W b5 b7 c5 c7 v5 v7 p g off n f) (hb : Below B W W') (hB : B = W.heap.size) : PrB w W' b5 b7 c5 c7 v5 v7 p g off n f := by
  subst hB
  exact ⟨h.a.below hb rfl, h.x7.below hb h.x7.lt, h.f7.keep hb⟩
theorem PrB.drew {w W : World} {b5 b7 : Nat} {c5 c7 : Array Value} {v5 v7 : Value} {p : Pt} {g off n : Nat} {f : Nat → Int} (h : PrB w W b5 b7 c5 c7 v5 v7 p g off n f) : PrB w W.drew b5 b7 c5 c7 v5 v7 p g off n f := h.below (B := W.heap.size) (Below.refl _ W).drew rfl
theorem ptv_rows {w : World} {p : Pt} {bi oi ci bo oo co : Nat} (h : PtV w (.agg #[.slice (some ⟨bi, oi, none⟩) p.ni ci, .slice (some ⟨bo, oo, none⟩) p.no co]) p) :
    (∀ k, k < p.ni → w.cell? ⟨bi, oi + k, none⟩ = some (.int .i64 (p.I k))) ∧ (∀ k, k < p.no → w.cell? ⟨bo, oo + k, none⟩ = some (.int .i64 (p.O k))) := by
  obtain ⟨_, _, _, _, _, _, he, h1, h2⟩ := h
  simp only [Value.agg.injEq, Array.mk.injEq, List.cons.injEq, Value.slice.injEq, Option.some.injEq, Addr.mk.injEq, and_true, true_and] at he
  obtain ⟨⟨⟨rfl, rfl⟩, rfl⟩, ⟨rfl, rfl⟩, rfl⟩ := he
  exact ⟨h1, h2⟩
set_option linter.unusedSimpArgs false in
set_option maxRecDepth 100000 in
set_option maxHeartbeats 4000000 in
theorem lawRun_any (ao : Option Addr) (m c : Nat) (w : World) (hB : BSl w ao m) (hnc : m ≤ c) (hm : m ≤ 9223372036854775807) :
    Calls Try.prog 7 #[.slice ao m c] w fun e w' => e = .returned (.bool true) ∧ Below w.heap.size w w' := by
  have HBS := Lib.hid hB
  clear hB
  by_cases hlong : 1048576 < m
  · go_enter Try.func7, Try.ntmps7
    go_wp2_with fail
    go_ret
    exact ⟨rfl, Below.refl _ _⟩
  go_enter Try.func7, Try.ntmps7
  go_wp2_with fail
  refine (drawRun_any ao m c _ hnc hm HBS.out).mono ?_
  rintro e w1 ⟨t, g, off, cr, n, f, rfl, ht, hic, hg, hn5, hb1⟩
  have HIC := Lib.hid hic
  have HBw := Lib.hid hb1
  obtain ⟨ht1, ht2⟩ := ht
  clear hb1 hic
  have gne : ∀ a : Int, (a != a) = false := fun a => by simp
  have geq : ∀ a : Int, (a == a) = true := fun a => by simp
  go_wp2_with fail
  refine (implRun_any t g off n cr f _ (by omega) HIC.out (by omega)).mono ?_
  rintro e w2 ⟨v5, rfl, hy5, hn5', hb2⟩
  have HB2 := Lib.hid (HBw.out.trans (hb2.mono HBw.out.size))
  have HI2 := Lib.hid (HIC.out.keep hb2)
  clear hb2
  cases hok : runOk t f n
  · obtain rfl := hn5' hok
    have HK := Lib.hid hok
    clear hok hy5 hn5'
    have HX2 := Lib.hid (Bx.new w2 37 #[.slice none 0 0, .slice none 0 0])
    have hl2 := HX2.out.lt
    go_wp2_with fail
    refine (specRun_any t g off n cr f _ (by omega) (HI2.out.keep (below_all _ _)) (by omega)).mono ?_
    rintro e w3 ⟨v7, rfl, _, hn7, hb3⟩
    obtain rfl := hn7 HK.out
    have HX3 := Lib.hid (HX2.out.below hb3 (by simp))
    have HB3 := Lib.hid ((HB2.out.trans ((below_all _ _).mono HB2.out.size)).trans (hb3.mono ((HB2.out.trans ((below_all _ _).mono HB2.out.size)).size)))
    have c5 := HX3.out.cell
    have l5 := HX3.out.lt
    rw [HK.out]
    clear hb3 hn7
    go_wp2_with fail
    refine (samePath_nil _).mono ?_
    rintro e w4 ⟨rfl, hb4⟩
    have HX4 := Lib.hid ((HX3.out.alloc _).below hb4 (by simp; omega))
    have HX4' := Lib.hid ((Bx.new w3 37 #[.slice none 0 0, .slice none 0 0]).below hb4 (by simp))
    have HB4 := Lib.hid ((HB3.out.trans ((below_all _ _).mono HB3.out.size)).trans (hb4.mono ((HB3.out.trans ((below_all _ _).mono HB3.out.size)).size)))
    clear hb4 c5
    have c5 := HX4.out.cell
    have c7 := HX4'.out.cell
    go_wp2_with fail
    refine (samePath_nil _).mono ?_
    rintro e w5 ⟨rfl, hb5⟩
    go_wp2_with fail
    go_ret
    exact ⟨rfl, HB4.out.trans (hb5.mono HB4.out.size)⟩
  · have HK := Lib.hid hok
    have HY5 := Lib.hid (hy5 hok)
    obtain ⟨bi, oi, ci, bo, oo, co, hv5, _⟩ := hy5 hok
    replace hv5 : v5 = .agg #[.slice (some ⟨bi, oi, none⟩) n ci, .slice (some ⟨bo, oo, none⟩) n co] := hv5
    subst hv5
    obtain ⟨hrv, hti, hpt⟩ := runOk_parts hok
    have HPT := Lib.hid hpt
    have HRV := Lib.hid hrv
    have hrp := rvB_parts hrv
    have HSUM := Lib.hid (sum_run hrp.2.2)
    have HFB := Lib.hid hrp.2.2
    obtain ⟨⟨hn1, _⟩, _, _⟩ := hrp
    have hsn := HSUM.out n (Nat.le_refl _)
    have HI0 : Hid ((runPt t f n).I 0 = t) := by show t + sumTo f 0 = t; simp [sumTo]
    have HOL : Hid ((runPt t f n).O (n - 1) = t + sumTo f n) := by show t + sumTo f (n - 1 + 1) = _; rw [show n - 1 + 1 = n from by omega]
    have HST := Lib.hid (run_stnV hok)
    have h0n : 0 < (runPt t f n).ni := by show 0 < n; omega
    have hLn : n - 1 < (runPt t f n).no := by show n - 1 < n; omega
    clear hok hy5 hn5' hrv hpt
    have HM2 : Hid (PrA w (w2.alloc (.cells #[.slice (some ⟨bi, oi, none⟩) n ci, .slice (some ⟨bo, oo, none⟩) n co] 37)) w2.heap.size #[.slice (some ⟨bi, oi, none⟩) n ci, .slice (some ⟨bo, oo, none⟩) n co] (.agg #[.slice (some ⟨bi, oi, none⟩) n ci, .slice (some ⟨bo, oo, none⟩) n co]) (runPt t f n) g off n f) :=
      ⟨Bx.new _ _ _, HY5.out.keep (below_all _ _), HI2.out.keep (below_all _ _), HB2.out.trans ((below_all _ _).mono HB2.out.size)⟩
    go_wp2_with fail
    refine (specRun_any t g off n cr f _ (by omega) HM2.out.ic (by omega)).mono ?_
    rintro e w3 ⟨v7, rfl, hy7, _, hb3⟩
    have HY7 := Lib.hid (hy7 HK.out)
    obtain ⟨bi7, oi7, ci7, bo7, oo7, co7, hv7, _⟩ := hy7 HK.out
    replace hv7 : v7 = .agg #[.slice (some ⟨bi7, oi7, none⟩) n ci7, .slice (some ⟨bo7, oo7, none⟩) n co7] := hv7
    subst hv7
    have HM3 := Lib.hid (HM2.out.below hb3 rfl)
    have c5 := HM3.out.x5.cell
    have l5 := HM3.out.x5.lt
    rw [HK.out]
    clear hb3 hy7
    go_wp2_with fail
    refine (samePath_any _ _ (runPt t f n) (runPt t f n) _ (HM3.out.f5.keep (below_all _ _)) (HY7.out.keep (below_all _ _)) (by show n ≤ _; omega) (by show n ≤ _; omega) (by show n ≤ _; omega) (by show n ≤ _; omega)).mono ?_
    rintro e w4 ⟨rfl, hb4⟩
    rw [eqPt_refl]
    have HM4 := Lib.hid ((HM3.out.alloc (.cells #[.slice (some ⟨bi7, oi7, none⟩) n ci7, .slice (some ⟨bo7, oo7, none⟩) n co7] 37)).below hb4 rfl)
    clear hb4 c5
    have c5 := HM4.out.x5.cell
    go_wp2_with fail
    refine (pathsFit_nil _ _ t g off n cr f _ (by omega) ((HM4.out.alloc _).ic) HK.out).mono ?_
    rintro e w5 ⟨v10, rfl, hy10, _, hb5⟩
    have HY10 := Lib.hid (hy10 rfl)
    obtain ⟨bi9, oi9, ci9, bo9, oo9, co9, hv9, _⟩ := hy10 rfl
    replace hv9 : v10 = .agg #[.slice (some ⟨bi9, oi9, none⟩) n ci9, .slice (some ⟨bo9, oo9, none⟩) n co9] := hv9
    subst hv9
    have HM5 := Lib.hid ((HM4.out.alloc (.cells #[] 37)).below hb5 rfl)
    have HM6 : Hid (PrB w (w5.alloc (.cells #[.slice (some ⟨bi9, oi9, none⟩) n ci9, .slice (some ⟨bo9, oo9, none⟩) n co9] 37)) w2.heap.size w5.heap.size #[.slice (some ⟨bi, oi, none⟩) n ci, .slice (some ⟨bo, oo, none⟩) n co] #[.slice (some ⟨bi9, oi9, none⟩) n ci9, .slice (some ⟨bo9, oo9, none⟩) n co9] (.agg #[.slice (some ⟨bi, oi, none⟩) n ci, .slice (some ⟨bo, oo, none⟩) n co]) (.agg #[.slice (some ⟨bi9, oi9, none⟩) n ci9, .slice (some ⟨bo9, oo9, none⟩) n co9]) (runPt t f n) g off n f) :=
      ⟨HM5.out.alloc _, Bx.new _ _ _, HY10.out.keep (below_all _ _)⟩
    clear hb5 hy10 c5
    have c5 := HM5.out.x5.cell
    have l5' := HM5.out.x5.lt
    have dI := (ptv_rows HM5.out.f5).1 0 h0n
    have dO := (ptv_rows HM5.out.f5).2 (n - 1) hLn
    rw [HI0.out, Nat.add_zero] at dI
    rw [HOL.out] at dO
    have hw1 : IntKind.i64.wrap (t + sumTo f n) = t + sumTo f n := IntWalk.i64_in _ (by omega)
    have hw3 : IntKind.i64.wrap ((n : Int) - 1) = ((n - 1 : Nat) : Int) := by rw [show ((n : Int) - 1) = ((n - 1 : Nat) : Int) from by omega]; exact IntWalk.i64_in _ (by omega)
    have hkk : n - 1 < n := by omega
    have hn0 : (0 : Int) < (n : Int) := by omega
    have hn0' : 0 < n := by omega
    have hFB : Hid (∀ k, k < n → -1000000000 ≤ f k ∧ f k ≤ 1000000000) := fun k hk => by have := HFB.out k hk; omega
    go_wp2_with fail
    refine wp_region_held_drew (S := (fun w' => w'.cell? ⟨w2.heap.size, 0, none⟩ = some (.slice (some ⟨bi, oi, none⟩) n ci) ∧ w'.cell? ⟨w2.heap.size, 1, none⟩ = some (.slice (some ⟨bo, oo, none⟩) n co) ∧ w'.cell? ⟨w5.heap.size, 0, none⟩ = some (.slice (some ⟨bi9, oi9, none⟩) n ci9) ∧ w'.cell? ⟨w5.heap.size, 1, none⟩ = some (.slice (some ⟨bo9, oo9, none⟩) n co9) ∧ w'.cell? ⟨bi, oi, none⟩ = some (.int .i64 t) ∧ w'.cell? ⟨bo, oo + (n - 1), none⟩ = some (.int .i64 (t + sumTo f n)))) (by kernel_rfl) ?_ (fun hHeld => ?_)
    · try dsimp only
      go_keep
    refine wpAnyH_take (i := 0) (oi := ?_) (v := ?_) ?_ (by kernel_rfl) (by kernel_rfl) (by kernel_rfl) ?_ ?_ (by assumption) ?_
    rotate_left 2
    · simp only [List.getElem?_toArray, List.getElem?_cons_succ, List.getElem?_cons_zero]; rfl
    · exact fun _ _ _ h => h
    · first
        | (refine Or.inr ⟨?_, ?_⟩ <;> rfl)
        | (refine Or.inl ⟨?_, ?_⟩; · rfl
           intro w hSw; (try dsimp only at hSw); go_simp; (try with_reducible rfl); done)
    try simp only [Act.put, List.setIfInBounds_toArray, List.set_cons_zero, List.set_cons_succ]
    refine wpAnyH_take (i := 1) (oi := ?_) (v := ?_) ?_ (by kernel_rfl) (by kernel_rfl) (by kernel_rfl) ?_ ?_ (by assumption) ?_
    rotate_left 2
    · simp only [List.getElem?_toArray, List.getElem?_cons_succ, List.getElem?_cons_zero]; rfl
    · exact fun _ _ _ h => h
    · first
        | (refine Or.inr ⟨?_, ?_⟩ <;> rfl)
        | (refine Or.inl ⟨?_, ?_⟩; · rfl
           intro w hSw; (try dsimp only at hSw); go_simp; (try with_reducible rfl); done)
    try simp only [Act.put, List.setIfInBounds_toArray, List.set_cons_zero, List.set_cons_succ]
    refine wpAnyH_take (i := 2) (oi := ?_) (v := ?_) ?_ (by kernel_rfl) (by kernel_rfl) (by kernel_rfl) ?_ ?_ (by assumption) ?_
    rotate_left 2
    · simp only [List.getElem?_toArray, List.getElem?_cons_succ, List.getElem?_cons_zero]; rfl
    · exact fun _ _ _ h => h
    · first
        | (refine Or.inr ⟨?_, ?_⟩ <;> rfl)
        | (refine Or.inl ⟨?_, ?_⟩; · rfl
           intro w hSw; (try dsimp only at hSw); go_simp; (try with_reducible rfl); done)
    try simp only [Act.put, List.setIfInBounds_toArray, List.set_cons_zero, List.set_cons_succ]
    refine wpAnyH_take (i := 3) (oi := ?_) (v := ?_) ?_ (by kernel_rfl) (by kernel_rfl) (by kernel_rfl) ?_ ?_ (by assumption) ?_
    rotate_left 2
    · simp only [List.getElem?_toArray, List.getElem?_cons_succ, List.getElem?_cons_zero]; rfl
    · exact fun _ _ _ h => h
    · first
        | (refine Or.inr ⟨?_, ?_⟩ <;> rfl)
        | (refine Or.inl ⟨?_, ?_⟩; · rfl
           intro w hSw; (try dsimp only at hSw); go_simp; (try with_reducible rfl); done)
    try simp only [Act.put, List.setIfInBounds_toArray, List.set_cons_zero, List.set_cons_succ]
    refine wpAnyH_ready (rs := [4]) (by kernel_rfl) (by simp) ?_
    refine AllReadyH.cons (o := ?_) ?_ (fun K hK => ?_) AllReadyH.nil
    rotate_left 1
    · simp only [List.getElem?_toArray, List.getElem?_cons_succ, List.getElem?_cons_zero]; rfl
    go_simp
    go_at_call 21
    go_must (refine Calls.mono (samePath_any _ _ (runPt t f n) (runPt t f n) _ HM6.out.drew.f7 HM6.out.drew.a.f5 (by show n ≤ _; omega) (by show n ≤ _; omega) (by show n ≤ _; omega) (by show n ≤ _; omega)) ?_)
    rintro e w7 ⟨rfl, hb⟩
    have HM7 := Lib.hid (by first | exact HM6.out.below hb rfl | exact HM6.out.drew.below hb rfl)
    clear hb
    have d5 := HM7.out.a.x5.cell
    have d7 := HM7.out.x7.cell
    have dI := (ptv_rows HM7.out.a.f5).1 0 h0n
    have dO := (ptv_rows HM7.out.a.f5).2 (n - 1) hLn
    rw [HI0.out, Nat.add_zero] at dI
    rw [HOL.out] at dO
    rw [eqPt_refl]
    refine hK.out _ _ ?_ (fun hHeld => ?_)
    · try dsimp only
      go_keep
    clear hK K
    try simp only [Act.put, List.setIfInBounds_toArray, List.set_cons_zero, List.set_cons_succ]
    refine wpAnyH_take (i := 5) (oi := ?_) (v := ?_) ?_ (by kernel_rfl) (by kernel_rfl) (by kernel_rfl) ?_ ?_ (by assumption) ?_
    rotate_left 2
    · simp only [List.getElem?_toArray, List.getElem?_cons_succ, List.getElem?_cons_zero]; rfl
    · exact fun _ _ _ h => h
    · first
        | (refine Or.inr ⟨?_, ?_⟩ <;> rfl)
        | (refine Or.inl ⟨?_, ?_⟩; · rfl
           intro w hSw; (try dsimp only at hSw); go_simp; (try with_reducible rfl); done)
    try simp only [Act.put, List.setIfInBounds_toArray, List.set_cons_zero, List.set_cons_succ]
    refine wpAnyH_take (i := 6) (oi := ?_) (v := ?_) ?_ (by kernel_rfl) (by kernel_rfl) (by kernel_rfl) ?_ ?_ (by assumption) ?_
    rotate_left 2
    · simp only [List.getElem?_toArray, List.getElem?_cons_succ, List.getElem?_cons_zero]; rfl
    · exact fun _ _ _ h => h
    · first
        | (refine Or.inr ⟨?_, ?_⟩ <;> rfl)
        | (refine Or.inl ⟨?_, ?_⟩; · rfl
           intro w hSw; (try dsimp only at hSw); go_simp; (try with_reducible rfl); done)
    try simp only [Act.put, List.setIfInBounds_toArray, List.set_cons_zero, List.set_cons_succ]
    refine wpAnyH_take (i := 7) (oi := ?_) (v := ?_) ?_ (by kernel_rfl) (by kernel_rfl) (by kernel_rfl) ?_ ?_ (by assumption) ?_
    rotate_left 2
    · simp only [List.getElem?_toArray, List.getElem?_cons_succ, List.getElem?_cons_zero]; rfl
    · exact fun _ _ _ h => h
    · first
        | (refine Or.inr ⟨?_, ?_⟩ <;> rfl)
        | (refine Or.inl ⟨?_, ?_⟩; · rfl
           intro w hSw; (try dsimp only at hSw); go_simp; (try with_reducible rfl); done)
    try simp only [Act.put, List.setIfInBounds_toArray, List.set_cons_zero, List.set_cons_succ]
    refine wpAnyH_take (i := 8) (oi := ?_) (v := ?_) ?_ (by kernel_rfl) (by kernel_rfl) (by kernel_rfl) ?_ ?_ (by assumption) ?_
    rotate_left 2
    · simp only [List.getElem?_toArray, List.getElem?_cons_succ, List.getElem?_cons_zero]; rfl
    · exact fun _ _ _ h => h
    · first
        | (refine Or.inr ⟨?_, ?_⟩ <;> rfl)
        | (refine Or.inl ⟨?_, ?_⟩; · rfl
           intro w hSw; (try dsimp only at hSw); go_simp; (try with_reducible rfl); done)
    try simp only [Act.put, List.setIfInBounds_toArray, List.set_cons_zero, List.set_cons_succ]
    refine wpAnyH_ready (rs := [9]) (by kernel_rfl) (by simp) ?_
    refine AllReadyH.cons (o := ?_) ?_ (fun K hK => ?_) AllReadyH.nil
    rotate_left 1
    · simp only [List.getElem?_toArray, List.getElem?_cons_succ, List.getElem?_cons_zero]; rfl
    go_simp
    go_at_call 28
    go_must (refine Calls.mono (implPValid_any _ (runPt t f n) n _ HM7.out.a.f5 (by show n ≤ _; omega) (by show n ≤ _; omega) (by omega)) ?_)
    rintro e w8 ⟨rfl, hb⟩
    have HM8 := Lib.hid (by first | exact HM7.out.below hb rfl | exact HM7.out.drew.below hb rfl)
    clear hb
    have d5 := HM8.out.a.x5.cell
    have d7 := HM8.out.x7.cell
    have dI := (ptv_rows HM8.out.a.f5).1 0 h0n
    have dO := (ptv_rows HM8.out.a.f5).2 (n - 1) hLn
    rw [HI0.out, Nat.add_zero] at dI
    rw [HOL.out] at dO
    rw [HPT.out]
    refine hK.out _ _ ?_ (fun hHeld => ?_)
    · try dsimp only
      go_keep
    clear hK K
    try simp only [Act.put, List.setIfInBounds_toArray, List.set_cons_zero, List.set_cons_succ]
    refine wpAnyH_take (i := 10) (oi := ?_) (v := ?_) ?_ (by kernel_rfl) (by kernel_rfl) (by kernel_rfl) ?_ ?_ (by assumption) ?_
    rotate_left 2
    · simp only [List.getElem?_toArray, List.getElem?_cons_succ, List.getElem?_cons_zero]; rfl
    · exact fun _ _ _ h => h
    · first
        | (refine Or.inr ⟨?_, ?_⟩ <;> rfl)
        | (refine Or.inl ⟨?_, ?_⟩; · rfl
           intro w hSw; (try dsimp only at hSw); go_simp; (try with_reducible rfl); done)
    try simp only [Act.put, List.setIfInBounds_toArray, List.set_cons_zero, List.set_cons_succ]
    refine wpAnyH_take (i := 11) (oi := ?_) (v := ?_) ?_ (by kernel_rfl) (by kernel_rfl) (by kernel_rfl) ?_ ?_ (by assumption) ?_
    rotate_left 2
    · simp only [List.getElem?_toArray, List.getElem?_cons_succ, List.getElem?_cons_zero]; rfl
    · exact fun _ _ _ h => h
    · first
        | (refine Or.inr ⟨?_, ?_⟩ <;> rfl)
        | (refine Or.inl ⟨?_, ?_⟩; · rfl
           intro w hSw; (try dsimp only at hSw); go_simp; (try with_reducible rfl); done)
    try simp only [Act.put, List.setIfInBounds_toArray, List.set_cons_zero, List.set_cons_succ]
    refine wpAnyH_take (i := 12) (oi := ?_) (v := ?_) ?_ (by kernel_rfl) (by kernel_rfl) (by kernel_rfl) ?_ ?_ (by assumption) ?_
    rotate_left 2
    · simp only [List.getElem?_toArray, List.getElem?_cons_succ, List.getElem?_cons_zero]; rfl
    · exact fun _ _ _ h => h
    · first
        | (refine Or.inr ⟨?_, ?_⟩ <;> rfl)
        | (refine Or.inl ⟨?_, ?_⟩; · rfl
           intro w hSw; (try dsimp only at hSw); go_simp; (try with_reducible rfl); done)
    try simp only [Act.put, List.setIfInBounds_toArray, List.set_cons_zero, List.set_cons_succ]
    refine wpAnyH_take (i := 13) (oi := ?_) (v := ?_) ?_ (by kernel_rfl) (by kernel_rfl) (by kernel_rfl) ?_ ?_ (by assumption) ?_
    rotate_left 2
    · simp only [List.getElem?_toArray, List.getElem?_cons_succ, List.getElem?_cons_zero]; rfl
    · exact fun _ _ _ h => h
    · first
        | (refine Or.inr ⟨?_, ?_⟩ <;> rfl)
        | (refine Or.inl ⟨?_, ?_⟩; · rfl
           intro w hSw; (try dsimp only at hSw); go_simp; (try with_reducible rfl); done)
    try simp only [Act.put, List.setIfInBounds_toArray, List.set_cons_zero, List.set_cons_succ]
    refine wpAnyH_take (i := 14) (oi := ?_) (v := ?_) ?_ (by kernel_rfl) (by kernel_rfl) (by kernel_rfl) ?_ ?_ (by assumption) ?_
    rotate_left 2
    · simp only [List.getElem?_toArray, List.getElem?_cons_succ, List.getElem?_cons_zero]; rfl
    · exact fun _ _ _ h => h
    · first
        | (refine Or.inr ⟨?_, ?_⟩ <;> rfl)
        | (refine Or.inl ⟨?_, ?_⟩; · rfl
           intro w hSw; (try dsimp only at hSw); go_simp; (try with_reducible rfl); done)
    try simp only [Act.put, List.setIfInBounds_toArray, List.set_cons_zero, List.set_cons_succ]
    refine wpAnyH_take (i := 15) (oi := ?_) (v := ?_) ?_ (by kernel_rfl) (by kernel_rfl) (by kernel_rfl) ?_ ?_ (by assumption) ?_
    rotate_left 2
    · simp only [List.getElem?_toArray, List.getElem?_cons_succ, List.getElem?_cons_zero]; rfl
    · exact fun _ _ _ h => h
    · first
        | (refine Or.inr ⟨?_, ?_⟩ <;> rfl)
        | (refine Or.inl ⟨?_, ?_⟩; · rfl
           intro w hSw; (try dsimp only at hSw); go_simp; (try with_reducible rfl); done)
    try simp only [Act.put, List.setIfInBounds_toArray, List.set_cons_zero, List.set_cons_succ]
    refine wpAnyH_take (i := 16) (oi := ?_) (v := ?_) ?_ (by kernel_rfl) (by kernel_rfl) (by kernel_rfl) ?_ ?_ (by assumption) ?_
    rotate_left 2
    · simp only [List.getElem?_toArray, List.getElem?_cons_succ, List.getElem?_cons_zero]; rfl
    · exact fun _ _ _ h => h
    · first
        | (refine Or.inr ⟨?_, ?_⟩ <;> rfl)
        | (refine Or.inl ⟨?_, ?_⟩; · rfl
           intro w hSw; (try dsimp only at hSw); go_simp; (try with_reducible rfl); done)
    try simp only [Act.put, List.setIfInBounds_toArray, List.set_cons_zero, List.set_cons_succ]
    refine wpAnyH_take (i := 17) (oi := ?_) (v := ?_) ?_ (by kernel_rfl) (by kernel_rfl) (by kernel_rfl) ?_ ?_ (by assumption) ?_
    rotate_left 2
    · simp only [List.getElem?_toArray, List.getElem?_cons_succ, List.getElem?_cons_zero]; rfl
    · exact fun _ _ _ h => h
    · first
        | (refine Or.inr ⟨?_, ?_⟩ <;> rfl)
        | (refine Or.inl ⟨?_, ?_⟩; · rfl
           intro w hSw; (try dsimp only at hSw); go_simp; (try with_reducible rfl); done)
    try simp only [Act.put, List.setIfInBounds_toArray, List.set_cons_zero, List.set_cons_succ]
    refine wpAnyH_take (i := 18) (oi := ?_) (v := ?_) ?_ (by kernel_rfl) (by kernel_rfl) (by kernel_rfl) ?_ ?_ (by assumption) ?_
    rotate_left 2
    · simp only [List.getElem?_toArray, List.getElem?_cons_succ, List.getElem?_cons_zero]; rfl
    · exact fun _ _ _ h => h
    · first
        | (refine Or.inr ⟨?_, ?_⟩ <;> rfl)
        | (refine Or.inl ⟨?_, ?_⟩; · rfl
           intro w hSw; (try dsimp only at hSw); go_simp; (try with_reducible rfl); done)
    try simp only [Act.put, List.setIfInBounds_toArray, List.set_cons_zero, List.set_cons_succ]
    refine wpAnyH_take (i := 19) (oi := ?_) (v := ?_) ?_ (by kernel_rfl) (by kernel_rfl) (by kernel_rfl) ?_ ?_ (by assumption) ?_
    rotate_left 2
    · simp only [List.getElem?_toArray, List.getElem?_cons_succ, List.getElem?_cons_zero]; rfl
    · exact fun _ _ _ h => h
    · first
        | (refine Or.inr ⟨?_, ?_⟩ <;> rfl)
        | (refine Or.inl ⟨?_, ?_⟩; · rfl
           intro w hSw; (try dsimp only at hSw); go_simp; (try with_reducible rfl); done)
    try simp only [Act.put, List.setIfInBounds_toArray, List.set_cons_zero, List.set_cons_succ]
    refine wpAnyH_take (i := 20) (oi := ?_) (v := ?_) ?_ (by kernel_rfl) (by kernel_rfl) (by kernel_rfl) ?_ ?_ (by assumption) ?_
    rotate_left 2
    · simp only [List.getElem?_toArray, List.getElem?_cons_succ, List.getElem?_cons_zero]; rfl
    · exact fun _ _ _ h => h
    · first
        | (refine Or.inr ⟨?_, ?_⟩ <;> rfl)
        | (refine Or.inl ⟨?_, ?_⟩; · rfl
           intro w hSw; (try dsimp only at hSw); go_simp; (try with_reducible rfl); done)
    try simp only [Act.put, List.setIfInBounds_toArray, List.set_cons_zero, List.set_cons_succ]
    refine wpAnyH_take (i := 21) (oi := ?_) (v := ?_) ?_ (by kernel_rfl) (by kernel_rfl) (by kernel_rfl) ?_ ?_ (by assumption) ?_
    rotate_left 2
    · simp only [List.getElem?_toArray, List.getElem?_cons_succ, List.getElem?_cons_zero]; rfl
    · exact fun _ _ _ h => h
    · first
        | (refine Or.inr ⟨?_, ?_⟩ <;> rfl)
        | (refine Or.inl ⟨?_, ?_⟩; · rfl
           intro w hSw; (try dsimp only at hSw); go_simp; (try with_reducible rfl); done)
    try simp only [Act.put, List.setIfInBounds_toArray, List.set_cons_zero, List.set_cons_succ]
    refine wpAnyH_take (i := 22) (oi := ?_) (v := ?_) ?_ (by kernel_rfl) (by kernel_rfl) (by kernel_rfl) ?_ ?_ (by assumption) ?_
    rotate_left 2
    · simp only [List.getElem?_toArray, List.getElem?_cons_succ, List.getElem?_cons_zero]; rfl
    · exact fun _ _ _ h => h
    · first
        | (refine Or.inr ⟨?_, ?_⟩ <;> rfl)
        | (refine Or.inl ⟨?_, ?_⟩; · rfl
           intro w hSw; (try dsimp only at hSw); go_simp; (try with_reducible rfl); done)
    try simp only [Act.put, List.setIfInBounds_toArray, List.set_cons_zero, List.set_cons_succ]
    refine wpAnyH_take (i := 23) (oi := ?_) (v := ?_) ?_ (by kernel_rfl) (by kernel_rfl) (by kernel_rfl) ?_ ?_ (by assumption) ?_
    rotate_left 2
    · simp only [List.getElem?_toArray, List.getElem?_cons_succ, List.getElem?_cons_zero]; rfl
    · exact fun _ _ _ h => h
    · first
        | (refine Or.inr ⟨?_, ?_⟩ <;> rfl)
        | (refine Or.inl ⟨?_, ?_⟩; · rfl
           intro w hSw; (try dsimp only at hSw); go_simp; (try with_reducible rfl); done)
    try simp only [Act.put, List.setIfInBounds_toArray, List.set_cons_zero, List.set_cons_succ]
    refine wpAnyH_take (i := 24) (oi := ?_) (v := ?_) ?_ (by kernel_rfl) (by kernel_rfl) (by kernel_rfl) ?_ ?_ (by assumption) ?_
    rotate_left 2
    · simp only [List.getElem?_toArray, List.getElem?_cons_succ, List.getElem?_cons_zero]; rfl
    · exact fun _ _ _ h => h
    · first
        | (refine Or.inr ⟨?_, ?_⟩ <;> rfl)
        | (refine Or.inl ⟨?_, ?_⟩; · rfl
           intro w hSw; (try dsimp only at hSw); go_simp; (try with_reducible rfl); done)
    try simp only [Act.put, List.setIfInBounds_toArray, List.set_cons_zero, List.set_cons_succ]
    refine wpAnyH_take (i := 25) (oi := ?_) (v := ?_) ?_ (by kernel_rfl) (by kernel_rfl) (by kernel_rfl) ?_ ?_ (by assumption) ?_
    rotate_left 2
    · simp only [List.getElem?_toArray, List.getElem?_cons_succ, List.getElem?_cons_zero]; rfl
    · exact fun _ _ _ h => h
    · first
        | (refine Or.inr ⟨?_, ?_⟩ <;> rfl)
        | (refine Or.inl ⟨?_, ?_⟩; · rfl
           intro w hSw; (try dsimp only at hSw); go_simp; (try with_reducible rfl); done)
    try simp only [Act.put, List.setIfInBounds_toArray, List.set_cons_zero, List.set_cons_succ]
    refine wpAnyH_take (i := 26) (oi := ?_) (v := ?_) ?_ (by kernel_rfl) (by kernel_rfl) (by kernel_rfl) ?_ ?_ (by assumption) ?_
    rotate_left 2
    · simp only [List.getElem?_toArray, List.getElem?_cons_succ, List.getElem?_cons_zero]; rfl
    · exact fun _ _ _ h => h
    · first
        | (refine Or.inr ⟨?_, ?_⟩ <;> rfl)
        | (refine Or.inl ⟨?_, ?_⟩; · rfl
           intro w hSw; (try dsimp only at hSw); go_simp; (try with_reducible rfl); done)
    try simp only [Act.put, List.setIfInBounds_toArray, List.set_cons_zero, List.set_cons_succ]
    refine wpAnyH_take (i := 27) (oi := ?_) (v := ?_) ?_ (by kernel_rfl) (by kernel_rfl) (by kernel_rfl) ?_ ?_ (by assumption) ?_
    rotate_left 2
    · simp only [List.getElem?_toArray, List.getElem?_cons_succ, List.getElem?_cons_zero]; rfl
    · exact fun _ _ _ h => h
    · first
        | (refine Or.inr ⟨?_, ?_⟩ <;> rfl)
        | (refine Or.inl ⟨?_, ?_⟩; · rfl
           intro w hSw; (try dsimp only at hSw); go_simp; (try with_reducible rfl); done)
    try simp only [Act.put, List.setIfInBounds_toArray, List.set_cons_zero, List.set_cons_succ]
    refine wpAnyH_ready (rs := [28]) (by kernel_rfl) (by simp) ?_
    refine AllReadyH.cons (o := ?_) ?_ (fun K hK => ?_) AllReadyH.nil
    rotate_left 1
    · simp only [List.getElem?_toArray, List.getElem?_cons_succ, List.getElem?_cons_zero]; rfl
    go_simp
    go_at_call 12
    go_must (refine Calls.mono (lawsSum_any g off n cr f _ (by omega) hFB.out HM8.out.a.ic) ?_)
    rintro e w9 ⟨rfl, rfl⟩
    refine hK.out _ _ ?_ (fun hHeld => ?_)
    · try dsimp only
      go_keep
    clear hK K
    try simp only [Act.put, List.setIfInBounds_toArray, List.set_cons_zero, List.set_cons_succ]
    refine wpAnyH_take (i := 29) (oi := ?_) (v := ?_) ?_ (by kernel_rfl) (by kernel_rfl) (by kernel_rfl) ?_ ?_ (by assumption) ?_
    rotate_left 2
    · simp only [List.getElem?_toArray, List.getElem?_cons_succ, List.getElem?_cons_zero]; rfl
    · exact fun _ _ _ h => h
    · first
        | (refine Or.inr ⟨?_, ?_⟩ <;> rfl)
        | (refine Or.inl ⟨?_, ?_⟩; · rfl
           intro w hSw; (try dsimp only at hSw); go_simp; (try with_reducible rfl); done)
    try simp only [Act.put, List.setIfInBounds_toArray, List.set_cons_zero, List.set_cons_succ]
    refine wpAnyH_take (i := 30) (oi := ?_) (v := ?_) ?_ (by kernel_rfl) (by kernel_rfl) (by kernel_rfl) ?_ ?_ (by assumption) ?_
    rotate_left 2
    · simp only [List.getElem?_toArray, List.getElem?_cons_succ, List.getElem?_cons_zero]; rfl
    · exact fun _ _ _ h => h
    · first
        | (refine Or.inr ⟨?_, ?_⟩ <;> rfl)
        | (refine Or.inl ⟨?_, ?_⟩; · rfl
           intro w hSw; (try dsimp only at hSw); go_simp; (try with_reducible rfl); done)
    try simp only [Act.put, List.setIfInBounds_toArray, List.set_cons_zero, List.set_cons_succ]
    refine wpAnyH_take (i := 31) (oi := ?_) (v := ?_) ?_ (by kernel_rfl) (by kernel_rfl) (by kernel_rfl) ?_ ?_ (by assumption) ?_
    rotate_left 2
    · simp only [List.getElem?_toArray, List.getElem?_cons_succ, List.getElem?_cons_zero]; rfl
    · exact fun _ _ _ h => h
    · first
        | (refine Or.inr ⟨?_, ?_⟩ <;> rfl)
        | (refine Or.inl ⟨?_, ?_⟩; · rfl
           intro w hSw; (try dsimp only at hSw); go_simp; (try with_reducible rfl); done)
    try simp only [Act.put, List.setIfInBounds_toArray, List.set_cons_zero, List.set_cons_succ]
    refine wpAnyH_take (i := 32) (oi := ?_) (v := ?_) ?_ (by kernel_rfl) (by kernel_rfl) (by kernel_rfl) ?_ ?_ (by assumption) ?_
    rotate_left 2
    · simp only [List.getElem?_toArray, List.getElem?_cons_succ, List.getElem?_cons_zero]; rfl
    · exact fun _ _ _ h => h
    · first
        | (refine Or.inr ⟨?_, ?_⟩ <;> rfl)
        | (refine Or.inl ⟨?_, ?_⟩; · rfl
           intro w hSw; (try dsimp only at hSw); go_simp; (try with_reducible rfl); done)
    try simp only [Act.put, List.setIfInBounds_toArray, List.set_cons_zero, List.set_cons_succ]
    refine wpAnyH_take (i := 33) (oi := ?_) (v := ?_) ?_ (by kernel_rfl) (by kernel_rfl) (by kernel_rfl) ?_ ?_ (by assumption) ?_
    rotate_left 2
    · simp only [List.getElem?_toArray, List.getElem?_cons_succ, List.getElem?_cons_zero]; rfl
    · exact fun _ _ _ h => h
    · first
        | (refine Or.inr ⟨?_, ?_⟩ <;> rfl)
        | (refine Or.inl ⟨?_, ?_⟩; · rfl
           intro w hSw; (try dsimp only at hSw); go_simp; (try with_reducible rfl); done)
    try simp only [Act.put, List.setIfInBounds_toArray, List.set_cons_zero, List.set_cons_succ]
    refine wpAnyH_take (i := 34) (oi := ?_) (v := ?_) ?_ (by kernel_rfl) (by kernel_rfl) (by kernel_rfl) ?_ ?_ (by assumption) ?_
    rotate_left 2
    · simp only [List.getElem?_toArray, List.getElem?_cons_succ, List.getElem?_cons_zero]; rfl
    · exact fun _ _ _ h => h
    · first
        | (refine Or.inr ⟨?_, ?_⟩ <;> rfl)
        | (refine Or.inl ⟨?_, ?_⟩; · rfl
           intro w hSw; (try dsimp only at hSw); go_simp; (try with_reducible rfl); done)
    try simp only [Act.put, List.setIfInBounds_toArray, List.set_cons_zero, List.set_cons_succ]
    refine wpAnyH_ready (rs := [35]) (by kernel_rfl) (by simp) ?_
    refine AllReadyH.cons (o := ?_) ?_ (fun K hK => ?_) AllReadyH.nil
    rotate_left 1
    · simp only [List.getElem?_toArray, List.getElem?_cons_succ, List.getElem?_cons_zero]; rfl
    go_simp
    go_at_call 18
    go_must (refine Calls.mono (implStands_any _ (runPt t f n) n _ HM8.out.a.f5 (by show n ≤ _; omega) (by show n ≤ _; omega) (by omega)) ?_)
    rintro e w9 ⟨rfl, hb⟩
    have HM9 := Lib.hid (by first | exact HM8.out.below hb rfl | exact HM8.out.drew.below hb rfl)
    clear hb
    have d5 := HM9.out.a.x5.cell
    have d7 := HM9.out.x7.cell
    have dI := (ptv_rows HM9.out.a.f5).1 0 h0n
    have dO := (ptv_rows HM9.out.a.f5).2 (n - 1) hLn
    rw [HI0.out, Nat.add_zero] at dI
    rw [HOL.out] at dO
    rw [HST.out]
    refine hK.out _ _ ?_ (fun hHeld => ?_)
    · try dsimp only
      go_keep
    clear hK K
    try simp only [Act.put, List.setIfInBounds_toArray, List.set_cons_zero, List.set_cons_succ]
    refine wpAnyH_take (i := 36) (oi := ?_) (v := ?_) ?_ (by kernel_rfl) (by kernel_rfl) (by kernel_rfl) ?_ ?_ (by assumption) ?_
    rotate_left 2
    · simp only [List.getElem?_toArray, List.getElem?_cons_succ, List.getElem?_cons_zero]; rfl
    · exact fun _ _ _ h => h
    · first
        | (refine Or.inr ⟨?_, ?_⟩ <;> rfl)
        | (refine Or.inl ⟨?_, ?_⟩; · rfl
           intro w hSw; (try dsimp only at hSw); go_simp; (try with_reducible rfl); done)
    try simp only [Act.put, List.setIfInBounds_toArray, List.set_cons_zero, List.set_cons_succ]
    refine wpAnyH_take (i := 37) (oi := ?_) (v := ?_) ?_ (by kernel_rfl) (by kernel_rfl) (by kernel_rfl) ?_ ?_ (by assumption) ?_
    rotate_left 2
    · simp only [List.getElem?_toArray, List.getElem?_cons_succ, List.getElem?_cons_zero]; rfl
    · exact fun _ _ _ h => h
    · first
        | (refine Or.inr ⟨?_, ?_⟩ <;> rfl)
        | (refine Or.inl ⟨?_, ?_⟩; · rfl
           intro w hSw; (try dsimp only at hSw); go_simp; (try with_reducible rfl); done)
    try simp only [Act.put, List.setIfInBounds_toArray, List.set_cons_zero, List.set_cons_succ]
    refine wpAnyH_take (i := 38) (oi := ?_) (v := ?_) ?_ (by kernel_rfl) (by kernel_rfl) (by kernel_rfl) ?_ ?_ (by assumption) ?_
    rotate_left 2
    · simp only [List.getElem?_toArray, List.getElem?_cons_succ, List.getElem?_cons_zero]; rfl
    · exact fun _ _ _ h => h
    · first
        | (refine Or.inr ⟨?_, ?_⟩ <;> rfl)
        | (refine Or.inl ⟨?_, ?_⟩; · rfl
           intro w hSw; (try dsimp only at hSw); go_simp; (try with_reducible rfl); done)
    try simp only [Act.put, List.setIfInBounds_toArray, List.set_cons_zero, List.set_cons_succ]
    refine wpAnyH_done (by kernel_rfl) ?_ _
    go_wp2_with fail
    go_ret
    exact ⟨rfl, HM9.out.a.bl⟩
end Go.Proofs.Ytlflkkigagdilaa
