/-
  The law FnSound.
-/
import Derived.Test.YtokddeoliieofaaKp
namespace Go.Proofs.Ytokddeoliieofaa
open Go.RowKit

/-- what RegisterUntil gives of a sound register -/
def UsRes (w : World) (e : Ending) (w' : World) : Prop :=
  ∃ g cap, ∃ xs : List (Int × ByteArray), e = .returned (.tuple #[.slice (some ⟨g, 0, none⟩) (List.length xs) cap, .bool true]) ∧ OwnN w' g cap xs ∧ sdV xs = true ∧ List.length xs ≤ 30 ∧ Below w.heap.size w w'
theorem sdV_len {ns : List (Int × ByteArray)} (h : sdV ns = true) : ns.length ≤ 30 := (rgV_true.1 (sdV_rg h)).1
theorem until_sound {b off c : Nat} {ns : List (Int × ByteArray)} (hs : sdV ns = true) (m : Int) (w : World) (hc : NtC w b off ns) :
    Calls Try.prog 30 #[.slice (some ⟨b, off, none⟩) ns.length c, .int .i64 m] w (UsRes w) := by
  refine (regUntil_any b off c ns m w (by have := sdV_len hs; omega) hc).mono ?_
  rintro e w1 ⟨⟨g, cap, he, ho, _⟩, hb⟩
  have e1 : ruL ns m = utL ns m := if_pos (sdV_rg hs)
  rw [e1] at he ho
  rw [sdV_rg hs] at he
  exact ⟨g, cap, _, he, ho, sdV_ut hs m, sdV_len (sdV_ut hs m), hb⟩
/-- the block that a sound register gives -/
def SkRes (a : Int) (b c : Bool) (w : World) (e : Ending) (w' : World) : Prop :=
  e = .returned (.tuple #[.agg #[.int .i64 a, .bool b, .bool c], .bool true]) ∧ Below w.heap.size w w'
theorem sk_ex {ns : List (Int × ByteArray)} (hs : sdV ns = true) : ∃ a b c, ∀ w w' e, BsRes (brJ 0 false false (txN ns)) w e w' → SkRes a b c w e w' := by
  obtain ⟨q, _, hq⟩ := bsV_any (brJ 0 false false (txN ns))
  refine ⟨(stB q).n, (stB q).i, (stB q).o, fun w w' e h => ?_⟩
  obtain ⟨he, hb⟩ := h
  refine ⟨?_, hb⟩
  rw [he, hq, decide_eq_true (sdV_br hs)]
theorem normal_any (w : World) : Calls Try.prog 33 #[] w fun e w' => e = .returned (.agg #[.int .i64 0, .bool false, .bool false]) ∧ Below w.heap.size w w' := by
  have HX : Hid (Bx (w.alloc (.cells #[.int .i64 0, .bool false, .bool false] 46)) w.heap.size 46 #[.int .i64 0, .bool false, .bool false]) := Bx.new _ _ _
  have hx := HX.out
  have hrc := hx.cell
  have hb : Hid (Below w.heap.size w (w.alloc (.cells #[.int .i64 0, .bool false, .bool false] 46))) := below_all _ _
  go_enter Try.func33, Try.ntmps33
  go_wp2_with fail
  exact bodyPost_ret (v := .agg #[.int .i64 0, .bool false, .bool false]) (by simp [results, Try.results33, go_sem, hrc]) rfl ⟨rfl, hb.out⟩
set_option maxRecDepth 100000 in
set_option maxHeartbeats 2000000 in
theorem lawSound_any (ao : Option Addr) (n c : Nat) (ao2 : Option Addr) (m2 c2 : Nat) (w : World) (hB : BSl w ao n) (hnc : n ≤ c) (hn : n ≤ 9223372036854775807) (hn2 : m2 ≤ 9223372036854775807) :
    Calls Try.prog 5 #[.slice ao n c, .slice ao2 m2 c2] w fun e w' => e = .returned (.bool true) ∧ Below w.heap.size w w' := by
  have HBS := Lib.hid hB
  clear hB
  by_cases hlong : 1048576 < n
  · go_enter Try.func5, Try.ntmps5
    go_wp2_with fail
    go_ret
    exact ⟨rfl, Below.refl _ _⟩
  by_cases hlong2 : 1048576 < m2
  · go_enter Try.func5, Try.ntmps5
    go_wp2_with fail
    go_ret
    exact ⟨rfl, Below.refl _ _⟩
  go_enter Try.func5, Try.ntmps5
  go_wp2_with fail
  refine (drawRSound_any ao n c _ hnc hn HBS.out).mono ?_
  rintro e w1 ⟨⟨g, cap, ns, rfl, ho, hgz, hl, _⟩, hb1⟩
  have HO := Lib.hid ho
  have HB := Lib.hid hb1
  clear ho hb1
  have HSI : Hid (∀ W, OwnN W g cap ns → Calls Try.prog 28 #[.slice (some ⟨g, 0, none⟩) ns.length cap] W fun e w' => e = .returned (.bool (sdV ns)) ∧ Below W.heap.size W w') := fun W h => sound_any g 0 cap ns W (by omega) h.nt
  have HSS : Hid (∀ W, OwnN W g cap ns → Calls Try.prog 29 #[.slice (some ⟨g, 0, none⟩) ns.length cap] W fun e w' => e = .returned (.bool (sdV ns)) ∧ Below W.heap.size W w') := fun W h => specSound_any g 0 cap ns W (by omega) h.nt
  cases hsd : sdV ns
  · rw [hsd] at HSI HSS
    clear hsd
    go_wp2_with fail
    refine (HSI.out _ HO.out).mono ?_
    rintro e w2 ⟨rfl, hb2⟩
    replace HO : Hid (OwnN _ g cap ns) := Own.below HO.out hb2 HO.out.lt
    replace HB := Lib.hid (HB.out.trans (Below.mono hb2 HB.out.size))
    clear hb2
    go_wp2_with fail
    refine (HSS.out _ HO.out).mono ?_
    rintro e w3 ⟨rfl, hb3⟩
    replace HO : Hid (OwnN _ g cap ns) := Own.below HO.out hb3 HO.out.lt
    replace HB := Lib.hid (HB.out.trans (Below.mono hb3 HB.out.size))
    clear hb3
    go_wp2_with fail
    go_ret
    exact ⟨rfl, HB.out⟩
  · rw [hsd] at HSI HSS
    have HUN : Hid (∀ m W, OwnN W g cap ns → Calls Try.prog 30 #[.slice (some ⟨g, 0, none⟩) ns.length cap, .int .i64 m] W (UsRes W)) := fun m W h => until_sound hsd m W h.nt
    obtain ⟨a, b, c0, hk⟩ := sk_ex hsd
    have HBK : Hid (∀ W, OwnN W g cap ns → Calls Try.prog 31 #[.slice (some ⟨g, 0, none⟩) ns.length cap, .int .i64 2000] W (SkRes a b c0 W)) := fun W h => (regBlock_any g 0 cap ns 2000 W (by omega) h.nt).mono fun e w' q => hk _ _ _ (by rw [rbJ_max hsd (Int.le_refl _)] at q; exact q)
    obtain ⟨t, ht⟩ : ∃ t, t = txN ns := ⟨_, rfl⟩
    have HBR : Hid (∀ W, Calls Try.prog 32 #[.agg #[.int .i64 0, .bool false, .bool false], .string t] W (SkRes a b c0 W)) := fun W => (implRun_any 0 false false t W).mono fun e w' q => hk _ _ _ (by rw [ht] at q; exact q)
    have HTX : Hid (∀ W, OwnN W g cap ns → Calls Try.prog 34 #[.slice (some ⟨g, 0, none⟩) ns.length cap] W fun e w' => e = .returned (.string t) ∧ Below W.heap.size W w') := fun W h => by
      have q := regText_any g 0 cap ns W (by omega) h.nt
      rw [show rtT ns = t from (if_pos (sdV_rg hsd)).trans ht.symm] at q
      exact q
    have HLE : Hid (∀ W, Calls Try.prog 35 #[.string t] W fun e w' => e = .returned (.bool true) ∧ Below W.heap.size W w') := fun W => by
      have q := implLegal_any t W
      rw [show lgB t = true from decide_eq_true (by rw [ht]; exact sdV_br hsd)] at q
      exact q
    clear hsd hk ht
    go_wp2_with fail
    refine (HSI.out _ HO.out).mono ?_
    rintro e w2 ⟨rfl, hb2⟩
    replace HO : Hid (OwnN _ g cap ns) := Own.below HO.out hb2 HO.out.lt
    replace HB := Lib.hid (HB.out.trans (Below.mono hb2 HB.out.size))
    clear hb2
    go_wp2_with fail
    refine (HSS.out _ HO.out).mono ?_
    rintro e w3 ⟨rfl, hb3⟩
    replace HO : Hid (OwnN _ g cap ns) := Own.below HO.out hb3 HO.out.lt
    replace HB := Lib.hid (HB.out.trans (Below.mono hb3 HB.out.size))
    clear hb3
    go_wp2_with fail
    refine (HUN.out _ _ HO.out).mono ?_
    rintro e w4 ⟨gx, cx, xs, rfl, hox, hsx, hlx, hb4⟩
    have HX := Lib.hid hox
    have HXS : Hid (∀ W, OwnN W gx cx xs → Calls Try.prog 28 #[.slice (some ⟨gx, 0, none⟩) xs.length cx] W fun e w' => e = .returned (.bool true) ∧ Below W.heap.size W w') := fun W h => by
      have q := sound_any gx 0 cx xs W (by omega) h.nt
      rw [hsx] at q
      exact q
    replace HO : Hid (OwnN _ g cap ns) := Own.below HO.out hb4 HO.out.lt
    replace HB := Lib.hid (HB.out.trans (Below.mono hb4 HB.out.size))
    clear hb4
    clear hox hsx
    go_wp2_with fail
    refine (HBK.out _ HO.out).mono ?_
    rintro e w5 ⟨rfl, hb5⟩
    replace HX : Hid (OwnN w5 gx cx xs) := Own.below HX.out hb5 HX.out.lt
    replace HO : Hid (OwnN _ g cap ns) := Own.below HO.out hb5 HO.out.lt
    replace HB := Lib.hid (HB.out.trans (Below.mono hb5 HB.out.size))
    clear hb5
    have T1 : Hid (Bx (w5.alloc (.cells #[.int .i64 a, .bool b, .bool c0] 46)) w5.heap.size 46 #[.int .i64 a, .bool b, .bool c0]) := Bx.new _ _ _
    have hbA : Hid (Below w5.heap.size w5 (w5.alloc (.cells #[.int .i64 a, .bool b, .bool c0] 46))) := below_all _ _
    replace HO : Hid (OwnN _ g cap ns) := Own.below HO.out hbA.out HO.out.lt
    replace HX : Hid (OwnN _ gx cx xs) := Own.below HX.out hbA.out HX.out.lt
    replace HB := Lib.hid (HB.out.trans (hbA.out.mono HB.out.size))
    clear hbA
    go_wp2_with fail
    refine (normal_any _).mono ?_
    rintro e w6 ⟨rfl, hb6⟩
    replace HX : Hid (OwnN w6 gx cx xs) := Own.below HX.out hb6 HX.out.lt
    replace T1 := Lib.hid (T1.out.below hb6 T1.out.lt)
    replace HO : Hid (OwnN _ g cap ns) := Own.below HO.out hb6 HO.out.lt
    replace HB := Lib.hid (HB.out.trans (Below.mono hb6 HB.out.size))
    clear hb6
    go_wp2_with fail
    refine (HTX.out _ HO.out).mono ?_
    rintro e w7 ⟨rfl, hb7⟩
    replace HX : Hid (OwnN w7 gx cx xs) := Own.below HX.out hb7 HX.out.lt
    replace T1 := Lib.hid (T1.out.below hb7 T1.out.lt)
    replace HO : Hid (OwnN _ g cap ns) := Own.below HO.out hb7 HO.out.lt
    replace HB := Lib.hid (HB.out.trans (Below.mono hb7 HB.out.size))
    clear hb7
    go_wp2_with fail
    refine (HBR.out _).mono ?_
    rintro e w8 ⟨rfl, hb8⟩
    replace HX : Hid (OwnN w8 gx cx xs) := Own.below HX.out hb8 HX.out.lt
    replace T1 := Lib.hid (T1.out.below hb8 T1.out.lt)
    replace HO : Hid (OwnN _ g cap ns) := Own.below HO.out hb8 HO.out.lt
    replace HB := Lib.hid (HB.out.trans (Below.mono hb8 HB.out.size))
    clear hb8
    have T2 : Hid (Bx (w8.alloc (.cells #[.int .i64 a, .bool b, .bool c0] 46)) w8.heap.size 46 #[.int .i64 a, .bool b, .bool c0]) := Bx.new _ _ _
    have hbC : Hid (Below w8.heap.size w8 (w8.alloc (.cells #[.int .i64 a, .bool b, .bool c0] 46))) := below_all _ _
    replace T1 := Lib.hid (T1.out.below hbC.out T1.out.lt)
    replace HO : Hid (OwnN _ g cap ns) := Own.below HO.out hbC.out HO.out.lt
    replace HX : Hid (OwnN _ gx cx xs) := Own.below HX.out hbC.out HX.out.lt
    replace HB := Lib.hid (HB.out.trans (hbC.out.mono HB.out.size))
    clear hbC
    have hk1 := T1.out.cell
    have hk2 := T2.out.cell
    go_wp2_with fail
    refine (HXS.out _ HX.out).mono ?_
    rintro e w9 ⟨rfl, hb9⟩
    replace HO : Hid (OwnN _ g cap ns) := Own.below HO.out hb9 HO.out.lt
    replace HB := Lib.hid (HB.out.trans (Below.mono hb9 HB.out.size))
    clear hb9
    clear hk1 hk2 T1 T2
    go_wp2_with fail
    refine (HTX.out _ HO.out).mono ?_
    rintro e w10 ⟨rfl, hb10⟩
    replace HO : Hid (OwnN _ g cap ns) := Own.below HO.out hb10 HO.out.lt
    replace HB := Lib.hid (HB.out.trans (Below.mono hb10 HB.out.size))
    clear hb10
    go_wp2_with fail
    refine (HLE.out _).mono ?_
    rintro e w11 ⟨rfl, hb11⟩
    replace HO : Hid (OwnN _ g cap ns) := Own.below HO.out hb11 HO.out.lt
    replace HB := Lib.hid (HB.out.trans (Below.mono hb11 HB.out.size))
    clear hb11
    go_wp2_with fail
    go_ret
    exact ⟨rfl, HB.out⟩
end Go.Proofs.Ytokddeoliieofaa
