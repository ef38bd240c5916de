/-
  The law FnRegisterBlock.
-/
import Derived.Test.YtokddeoliieofaaKq
import Derived.Test.YtokddeoliieofaaLSd
namespace Go.Proofs.Ytokddeoliieofaa
open Go.RowKit

theorem sk_ex2 {ns : List (Int × ByteArray)} (hs : sdV ns = true) : ∃ a b c, stI a b c < 5 ∧ ∀ w w' e, BsRes (brJ 0 false false (txN ns)) w e w' → SkRes a b c w e w' := by
  obtain ⟨q, hq5, hq⟩ := bsV_any (brJ 0 false false (txN ns))
  refine ⟨(stB q).n, (stB q).i, (stB q).o, by rw [stI_stB hq5]; exact hq5, fun w w' e h => ?_⟩
  obtain ⟨he, hb⟩ := h
  refine ⟨?_, hb⟩
  rw [he, hq, decide_eq_true (sdV_br hs)]
theorem until_xs {b off c : Nat} {ns : List (Int × ByteArray)} (hs : sdV ns = true) (m : Int) (w : World) (hc : NtC w b off ns) :
    Calls Try.prog 30 #[.slice (some ⟨b, off, none⟩) ns.length c, .int .i64 m] w (RuRes (utL ns m) true w) := by
  have h := regUntil_any b off c ns m w (by have := sdV_len hs; omega) hc
  rw [show ruL ns m = utL ns m from if_pos (sdV_rg hs), sdV_rg hs] at h
  exact h
/-- a block that is none -/
def NkRes (w : World) (e : Ending) (w' : World) : Prop := e = .returned (.tuple #[.agg #[.int .i64 0, .bool false, .bool false], .bool false]) ∧ Below w.heap.size w w'
/-- a row of some length -/
def LnRes (n : Nat) (w : World) (e : Ending) (w' : World) : Prop := (∃ g cap, e = .returned (.slice (some ⟨g, 0, none⟩) n cap)) ∧ Below w.heap.size w w'
set_option maxRecDepth 100000 in
set_option maxHeartbeats 2000000 in
theorem lawRBlock_any (ao : Option Addr) (n c : Nat) (w : World) (hB : BSl w ao n) (hnc : n ≤ c) (hn : n ≤ 9223372036854775807) :
    Calls Try.prog 8 #[.slice ao n c] w fun e w' => e = .returned (.bool true) ∧ Below w.heap.size w w' := by
  have HBS := Lib.hid hB
  clear hB
  by_cases hlong : 1048576 < n
  · go_enter Try.func8, Try.ntmps8
    go_wp2_with fail
    go_ret
    exact ⟨rfl, Below.refl _ _⟩
  go_enter Try.func8, Try.ntmps8
  go_wp2_with fail
  refine (drawRBlock_any ao n c _ hnc hn HBS.out).mono ?_
  rintro e w1 ⟨⟨g, cap, ns, m, rfl, ho, hgz, hl, hm0, hm1⟩, hb1⟩
  have HO := Lib.hid ho
  have HB := Lib.hid hb1
  clear ho hb1
  have HIB : Hid (∀ W, Own W g cap ns.length 2 61 (mvF (nM ns) (nL ns)) → Calls Try.prog 31 #[.slice (some ⟨g, 0, none⟩) ns.length cap, .int .i64 m] W (BsRes (rbJ ns m) W)) := fun W h => regBlock_any g 0 cap ns m W (by omega) (OwnN.nt h)
  have HSB : Hid (∀ W, Own W g cap ns.length 2 61 (mvF (nM ns) (nL ns)) → Calls Try.prog 46 #[.slice (some ⟨g, 0, none⟩) ns.length cap, .int .i64 m] W (BsRes (rbJ ns m) W)) := fun W h => specRegBlock_any g 0 cap ns m W (by omega) (And.left h) (OwnN.nt h)
  cases hsd : sdV ns
  · have hj : rbJ ns m = 5 := by unfold rbJ; rw [hsd]; rfl
    have hnk : ∀ W e W', BsRes (rbJ ns m) W e W' → NkRes W e W' := fun W e W' h => by rw [hj] at h; exact h
    replace HIB := Lib.hid (fun W h => (HIB.out W h).mono (fun e W' q => hnk W e W' q))
    replace HSB := Lib.hid (fun W h => (HSB.out W h).mono (fun e W' q => hnk W e W' q))
    clear hsd hj hnk
    go_wp2_with fail
    refine (HIB.out _ HO.out).mono ?_
    rintro e w2 ⟨rfl, hb2⟩
    have hb9 := hb2
    (try replace T1 := Lib.hid (T1.out.below hb9 T1.out.lt))
    (try replace T2 := Lib.hid (T2.out.below hb9 T2.out.lt))
    (try replace T3 := Lib.hid (T3.out.below hb9 T3.out.lt))
    (try replace HX := Lib.hid (Own.below HX.out hb9 (Own.lt HX.out)))
    replace HO := Lib.hid (Own.below HO.out hb9 (Own.lt HO.out))
    replace HB := Lib.hid (HB.out.trans (Below.mono hb9 HB.out.size))
    clear hb9
    clear hb2
    have hbA : Hid (Below w2.heap.size w2 (w2.alloc (.cells #[.int .i64 0, .bool false, .bool false] 46))) := below_all _ _
    have hb9 := hbA.out
    (try replace T1 := Lib.hid (T1.out.below hb9 T1.out.lt))
    (try replace T2 := Lib.hid (T2.out.below hb9 T2.out.lt))
    (try replace T3 := Lib.hid (T3.out.below hb9 T3.out.lt))
    (try replace HX := Lib.hid (Own.below HX.out hb9 (Own.lt HX.out)))
    replace HO := Lib.hid (Own.below HO.out hb9 (Own.lt HO.out))
    replace HB := Lib.hid (HB.out.trans (Below.mono hb9 HB.out.size))
    clear hb9
    have T1 : Hid (Bx (w2.alloc (.cells #[.int .i64 0, .bool false, .bool false] 46)) w2.heap.size 46 #[.int .i64 0, .bool false, .bool false]) := Bx.new _ _ _
    clear hbA
    go_wp2_with fail
    refine (HSB.out _ HO.out).mono ?_
    rintro e w3 ⟨rfl, hb3⟩
    have hb9 := hb3
    (try replace T1 := Lib.hid (T1.out.below hb9 T1.out.lt))
    (try replace T2 := Lib.hid (T2.out.below hb9 T2.out.lt))
    (try replace T3 := Lib.hid (T3.out.below hb9 T3.out.lt))
    (try replace HX := Lib.hid (Own.below HX.out hb9 (Own.lt HX.out)))
    replace HO := Lib.hid (Own.below HO.out hb9 (Own.lt HO.out))
    replace HB := Lib.hid (HB.out.trans (Below.mono hb9 HB.out.size))
    clear hb9
    clear hb3
    have hbA : Hid (Below w3.heap.size w3 (w3.alloc (.cells #[.int .i64 0, .bool false, .bool false] 46))) := below_all _ _
    have hb9 := hbA.out
    (try replace T1 := Lib.hid (T1.out.below hb9 T1.out.lt))
    (try replace T2 := Lib.hid (T2.out.below hb9 T2.out.lt))
    (try replace T3 := Lib.hid (T3.out.below hb9 T3.out.lt))
    (try replace HX := Lib.hid (Own.below HX.out hb9 (Own.lt HX.out)))
    replace HO := Lib.hid (Own.below HO.out hb9 (Own.lt HO.out))
    replace HB := Lib.hid (HB.out.trans (Below.mono hb9 HB.out.size))
    clear hb9
    have T2 : Hid (Bx (w3.alloc (.cells #[.int .i64 0, .bool false, .bool false] 46)) w3.heap.size 46 #[.int .i64 0, .bool false, .bool false]) := Bx.new _ _ _
    clear hbA
    have hk1 := T1.out.cell
    have hk2 := T2.out.cell
    go_wp2_with fail
    go_ret
    exact ⟨rfl, HB.out⟩
  · obtain ⟨xs, hxs⟩ : ∃ xs, xs = utL ns m := ⟨_, rfl⟩
    have hsx : sdV xs = true := by rw [hxs]; exact sdV_ut hsd m
    obtain ⟨a, b, c0, hab, hk⟩ := sk_ex2 hsx
    have hj : rbJ ns m = brJ 0 false false (txN xs) := by unfold rbJ; rw [if_pos hsd, hxs]
    have hxl := sdV_len hsx
    have HUN : Hid (∀ W, Own W g cap ns.length 2 61 (mvF (nM ns) (nL ns)) → Calls Try.prog 30 #[.slice (some ⟨g, 0, none⟩) ns.length cap, .int .i64 m] W (RuRes xs true W)) := fun W h => by rw [hxs]; exact until_xs hsd m W (OwnN.nt h)
    have HBX : Hid (∀ W g cap, Own W g cap xs.length 2 61 (mvF (nM xs) (nL xs)) → Calls Try.prog 31 #[.slice (some ⟨g, 0, none⟩) xs.length cap, .int .i64 2000] W (SkRes a b c0 W)) := fun W g cap h => (regBlock_any g 0 cap xs 2000 W (by omega) (OwnN.nt h)).mono fun e w' q => hk _ _ _ (by rw [rbJ_max hsx (Int.le_refl _)] at q; exact q)
    have HPO : Hid (∀ W, Calls Try.prog 47 #[.agg #[.int .i64 a, .bool b, .bool c0]] W fun e w' => e = .returned (.bool true) ∧ Below W.heap.size W w') := fun W => by
      have q := possible_any a b c0 W
      rw [decide_eq_true hab] at q
      exact q
    obtain ⟨N, hN⟩ : ∃ N, N = (trL xs).length := ⟨_, rfl⟩
    obtain ⟨t, ht⟩ : ∃ t, t = txN xs := ⟨_, rfl⟩
    have HTN : Hid (∀ W g cap, Own W g cap xs.length 2 61 (mvF (nM xs) (nL xs)) → Calls Try.prog 21 #[.slice (some ⟨g, 0, none⟩) xs.length cap] W (LnRes N W)) := fun W g cap h => (trains_any g 0 cap xs W (by omega) (OwnN.nt h)).mono fun e w' q => by
      obtain ⟨⟨g', c', e1, _, _⟩, hb⟩ := q
      exact ⟨⟨g', c', by rw [hN]; exact e1⟩, hb⟩
    have HTX : Hid (∀ W g cap, Own W g cap xs.length 2 61 (mvF (nM xs) (nL xs)) → Calls Try.prog 34 #[.slice (some ⟨g, 0, none⟩) xs.length cap] W fun e w' => e = .returned (.string t) ∧ Below W.heap.size W w') := fun W g cap h => by
      have q := regText_any g 0 cap xs W (by omega) (OwnN.nt h)
      rw [show rtT xs = t from (if_pos (sdV_rg hsx)).trans ht.symm] at q
      exact q
    have HBT : Hid (∀ W, Calls Try.prog 48 #[.string t] W fun e w' => e = .returned (.int .i64 N) ∧ Below W.heap.size W w') := fun W => by
      have q := blkTrains_any t W (decide_eq_true (by rw [ht]; exact sdV_br hsx))
      rw [ht, ← trL_cnt hsx, ← hN, ← ht] at q
      exact q
    replace HIB := Lib.hid (fun W h => (HIB.out W h).mono (fun e W' q => hk W W' e (by rw [hj] at q; exact q)))
    replace HSB := Lib.hid (fun W h => (HSB.out W h).mono (fun e W' q => hk W W' e (by rw [hj] at q; exact q)))
    have hNl : N ≤ 30 := by
      have h1 := trI_len xs xs.length
      have h2 : trL xs = trI xs xs.length := if_pos hsx
      rw [hN, h2]
      omega
    clear hsd hk ht hN hj hxs hsx hab
    go_wp2_with fail
    refine (HIB.out _ HO.out).mono ?_
    rintro e w2 ⟨rfl, hb2⟩
    have hb9 := hb2
    (try replace T1 := Lib.hid (T1.out.below hb9 T1.out.lt))
    (try replace T2 := Lib.hid (T2.out.below hb9 T2.out.lt))
    (try replace T3 := Lib.hid (T3.out.below hb9 T3.out.lt))
    (try replace HX := Lib.hid (Own.below HX.out hb9 (Own.lt HX.out)))
    replace HO := Lib.hid (Own.below HO.out hb9 (Own.lt HO.out))
    replace HB := Lib.hid (HB.out.trans (Below.mono hb9 HB.out.size))
    clear hb9
    clear hb2
    have hbA : Hid (Below w2.heap.size w2 (w2.alloc (.cells #[.int .i64 a, .bool b, .bool c0] 46))) := below_all _ _
    have hb9 := hbA.out
    (try replace T1 := Lib.hid (T1.out.below hb9 T1.out.lt))
    (try replace T2 := Lib.hid (T2.out.below hb9 T2.out.lt))
    (try replace T3 := Lib.hid (T3.out.below hb9 T3.out.lt))
    (try replace HX := Lib.hid (Own.below HX.out hb9 (Own.lt HX.out)))
    replace HO := Lib.hid (Own.below HO.out hb9 (Own.lt HO.out))
    replace HB := Lib.hid (HB.out.trans (Below.mono hb9 HB.out.size))
    clear hb9
    have T1 : Hid (Bx (w2.alloc (.cells #[.int .i64 a, .bool b, .bool c0] 46)) w2.heap.size 46 #[.int .i64 a, .bool b, .bool c0]) := Bx.new _ _ _
    clear hbA
    go_wp2_with fail
    refine (HSB.out _ HO.out).mono ?_
    rintro e w3 ⟨rfl, hb3⟩
    have hb9 := hb3
    (try replace T1 := Lib.hid (T1.out.below hb9 T1.out.lt))
    (try replace T2 := Lib.hid (T2.out.below hb9 T2.out.lt))
    (try replace T3 := Lib.hid (T3.out.below hb9 T3.out.lt))
    (try replace HX := Lib.hid (Own.below HX.out hb9 (Own.lt HX.out)))
    replace HO := Lib.hid (Own.below HO.out hb9 (Own.lt HO.out))
    replace HB := Lib.hid (HB.out.trans (Below.mono hb9 HB.out.size))
    clear hb9
    clear hb3
    have hbA : Hid (Below w3.heap.size w3 (w3.alloc (.cells #[.int .i64 a, .bool b, .bool c0] 46))) := below_all _ _
    have hb9 := hbA.out
    (try replace T1 := Lib.hid (T1.out.below hb9 T1.out.lt))
    (try replace T2 := Lib.hid (T2.out.below hb9 T2.out.lt))
    (try replace T3 := Lib.hid (T3.out.below hb9 T3.out.lt))
    (try replace HX := Lib.hid (Own.below HX.out hb9 (Own.lt HX.out)))
    replace HO := Lib.hid (Own.below HO.out hb9 (Own.lt HO.out))
    replace HB := Lib.hid (HB.out.trans (Below.mono hb9 HB.out.size))
    clear hb9
    have T2 : Hid (Bx (w3.alloc (.cells #[.int .i64 a, .bool b, .bool c0] 46)) w3.heap.size 46 #[.int .i64 a, .bool b, .bool c0]) := Bx.new _ _ _
    clear hbA
    have hk1 := T1.out.cell
    have hk2 := T2.out.cell
    go_wp2_with fail
    refine (HUN.out _ HO.out).mono ?_
    rintro e w4 ⟨⟨gx, cx, rfl, hox, _⟩, hb4⟩
    have hb9 := hb4
    (try replace T1 := Lib.hid (T1.out.below hb9 T1.out.lt))
    (try replace T2 := Lib.hid (T2.out.below hb9 T2.out.lt))
    (try replace T3 := Lib.hid (T3.out.below hb9 T3.out.lt))
    (try replace HX := Lib.hid (Own.below HX.out hb9 (Own.lt HX.out)))
    replace HO := Lib.hid (Own.below HO.out hb9 (Own.lt HO.out))
    replace HB := Lib.hid (HB.out.trans (Below.mono hb9 HB.out.size))
    clear hb9
    have HX : Hid (Own w4 gx cx xs.length 2 61 (mvF (nM xs) (nL xs))) := hox
    clear hb4 hox hk1 hk2
    go_wp2_with fail
    refine (HBX.out _ _ _ HX.out).mono ?_
    rintro e w5 ⟨rfl, hb5⟩
    have hb9 := hb5
    (try replace T1 := Lib.hid (T1.out.below hb9 T1.out.lt))
    (try replace T2 := Lib.hid (T2.out.below hb9 T2.out.lt))
    (try replace T3 := Lib.hid (T3.out.below hb9 T3.out.lt))
    (try replace HX := Lib.hid (Own.below HX.out hb9 (Own.lt HX.out)))
    replace HO := Lib.hid (Own.below HO.out hb9 (Own.lt HO.out))
    replace HB := Lib.hid (HB.out.trans (Below.mono hb9 HB.out.size))
    clear hb9
    clear hb5
    have hbA : Hid (Below w5.heap.size w5 (w5.alloc (.cells #[.int .i64 a, .bool b, .bool c0] 46))) := below_all _ _
    have hb9 := hbA.out
    (try replace T1 := Lib.hid (T1.out.below hb9 T1.out.lt))
    (try replace T2 := Lib.hid (T2.out.below hb9 T2.out.lt))
    (try replace T3 := Lib.hid (T3.out.below hb9 T3.out.lt))
    (try replace HX := Lib.hid (Own.below HX.out hb9 (Own.lt HX.out)))
    replace HO := Lib.hid (Own.below HO.out hb9 (Own.lt HO.out))
    replace HB := Lib.hid (HB.out.trans (Below.mono hb9 HB.out.size))
    clear hb9
    have T3 : Hid (Bx (w5.alloc (.cells #[.int .i64 a, .bool b, .bool c0] 46)) w5.heap.size 46 #[.int .i64 a, .bool b, .bool c0]) := Bx.new _ _ _
    clear hbA
    have hk1 := T1.out.cell
    have hk3 := T3.out.cell
    go_wp2_with fail
    refine (HPO.out _).mono ?_
    rintro e w6 ⟨rfl, hb6⟩
    have hb9 := hb6
    (try replace T1 := Lib.hid (T1.out.below hb9 T1.out.lt))
    (try replace T2 := Lib.hid (T2.out.below hb9 T2.out.lt))
    (try replace T3 := Lib.hid (T3.out.below hb9 T3.out.lt))
    (try replace HX := Lib.hid (Own.below HX.out hb9 (Own.lt HX.out)))
    replace HO := Lib.hid (Own.below HO.out hb9 (Own.lt HO.out))
    replace HB := Lib.hid (HB.out.trans (Below.mono hb9 HB.out.size))
    clear hb9
    clear hb6 hk1 hk3
    go_wp2_with fail
    refine (HTN.out _ _ _ HX.out).mono ?_
    rintro e w7 ⟨⟨g7, c7, rfl⟩, hb7⟩
    have hb9 := hb7
    (try replace T1 := Lib.hid (T1.out.below hb9 T1.out.lt))
    (try replace T2 := Lib.hid (T2.out.below hb9 T2.out.lt))
    (try replace T3 := Lib.hid (T3.out.below hb9 T3.out.lt))
    (try replace HX := Lib.hid (Own.below HX.out hb9 (Own.lt HX.out)))
    replace HO := Lib.hid (Own.below HO.out hb9 (Own.lt HO.out))
    replace HB := Lib.hid (HB.out.trans (Below.mono hb9 HB.out.size))
    clear hb9
    clear hb7
    go_wp2_with fail
    refine (HTX.out _ _ _ HX.out).mono ?_
    rintro e w8 ⟨rfl, hb8⟩
    have hb9 := hb8
    (try replace T1 := Lib.hid (T1.out.below hb9 T1.out.lt))
    (try replace T2 := Lib.hid (T2.out.below hb9 T2.out.lt))
    (try replace T3 := Lib.hid (T3.out.below hb9 T3.out.lt))
    (try replace HX := Lib.hid (Own.below HX.out hb9 (Own.lt HX.out)))
    replace HO := Lib.hid (Own.below HO.out hb9 (Own.lt HO.out))
    replace HB := Lib.hid (HB.out.trans (Below.mono hb9 HB.out.size))
    clear hb9
    clear hb8
    go_wp2_with fail
    refine (HBT.out _).mono ?_
    rintro e w9 ⟨rfl, hb9a⟩
    have hb9 := hb9a
    (try replace T1 := Lib.hid (T1.out.below hb9 T1.out.lt))
    (try replace T2 := Lib.hid (T2.out.below hb9 T2.out.lt))
    (try replace T3 := Lib.hid (T3.out.below hb9 T3.out.lt))
    (try replace HX := Lib.hid (Own.below HX.out hb9 (Own.lt HX.out)))
    replace HO := Lib.hid (Own.below HO.out hb9 (Own.lt HO.out))
    replace HB := Lib.hid (HB.out.trans (Below.mono hb9 HB.out.size))
    clear hb9
    clear hb9a
    go_wp2_with fail
    go_ret
    exact ⟨rfl, HB.out⟩
end Go.Proofs.Ytokddeoliieofaa
