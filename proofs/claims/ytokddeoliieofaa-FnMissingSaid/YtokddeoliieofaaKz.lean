/-
  DrawRegisterJoin.
-/
import Derived.Test.YtokddeoliieofaaKy
namespace Go.Proofs.Ytokddeoliieofaa
open Go.RowKit

/-- two drawn lists of notes -/
def DrJ (w : World) (e : Ending) (w' : World) : Prop :=
  ∃ g cap g2 cap2, ∃ xa xb : List (Int × ByteArray), e = .returned (.tuple #[.slice (some ⟨g, 0, none⟩) (List.length xa) cap, .slice (some ⟨g2, 0, none⟩) (List.length xb) cap2]) ∧ OwnN w' g cap xa ∧ OwnN w' g2 cap2 xb ∧ List.length xa ≤ 33 ∧ List.length xb ≤ 33 ∧ Below w.heap.size w w'
set_option maxRecDepth 100000 in
set_option maxHeartbeats 2000000 in
theorem drawJoin_any (ao : Option Addr) (n c : Nat) (w : World) (hnc : n ≤ c) (hn : n ≤ 9223372036854775807) (hB : BSl w ao n) :
    Calls Try.prog 36 #[.slice ao n c] w (DrJ w) := by
  have HBS := Lib.hid hB
  clear hB
  go_enter Try.func36, Try.ntmps36
  go_wp2_with fail
  refine (open_any ao n c _ hn hnc HBS.out).mono ?_
  rintro e w1 ⟨R, rfl, hR, hr1, hb1⟩
  have HB1 := Lib.hid hb1
  have HR1 := Lib.hid hr1
  have hz1 : w.heap.size ≤ w1.heap.size := hb1.size
  have hRl : R < w1.heap.size := hr1.lt
  clear hb1 hr1
  go_wp2_with fail
  refine (l92Notes_any R 0 _ (by omega) HR1.out).mono ?_
  rintro e w2 ⟨g, cap, xa, rfl, ho, hgz, hl, _, hr2, hg2⟩
  have HO := Lib.hid ho
  have HR2 := Lib.hid hr2
  have HB2 := Lib.hid (HB1.out.trans (below_of_grown hg2 (by omega) (by omega)))
  have hz2 : w1.heap.size ≤ w2.heap.size := hg2.size
  clear ho hr2 hg2
  go_wp2_with fail
  refine (l92Notes_any R _ _ (by omega) HR2.out).mono ?_
  rintro e w3 ⟨g3, cap3, x3, rfl, ho3, hgz3, hl3, _, hr3, hg3⟩
  have HO3 := Lib.hid ho3
  replace HO : Hid (OwnN w3 g cap xa) := Own.kept HO.out hg3 (by simp; omega)
  have HR3 := Lib.hid hr3
  have HB3 := Lib.hid (HB2.out.trans (below_of_grown hg3 (by omega) (by omega)))
  have hz3 : w2.heap.size ≤ w3.heap.size := hg3.size
  clear ho3 hr3 hg3
  go_wp2_with fail
  refine (specLate_any g3 0 cap3 x3 w3 hl3 (OwnN.nt HO3.out)).mono ?_
  rintro e w4 ⟨g4, cap4, ok, x4, rfl, ho4, hgz4, hl4, hb4⟩
  have HO4 := Lib.hid ho4
  replace HO : Hid (OwnN w4 g cap xa) := Own.below HO.out hb4 (Own.lt HO.out)
  have HR4 := Lib.hid (HR3.out.keep hb4)
  have HB4 := Lib.hid (HB3.out.trans (hb4.mono (by omega)))
  have hz4 : w3.heap.size ≤ w4.heap.size := hb4.size
  clear ho4 hb4
  cases ok
  · go_wp2_with fail
    refine (l92Notes_any R _ _ (by omega) HR4.out).mono ?_
    rintro e w6 ⟨g6, cap6, x6, rfl, ho6, hgz6, hl6, _, hr6, hg6⟩
    have HO6 := Lib.hid ho6
    have HOA : Hid (OwnN w6 g cap xa) := Own.kept HO.out hg6 (by simp; omega)
    have HB6 := Lib.hid (HB4.out.trans (below_of_grown hg6 (by omega) (by omega)))
    clear ho6 hr6 hg6
    go_wp2_with fail
    go_ret2
    exact ⟨g, cap, g6, cap6, xa, x6, rfl, HOA.out, HO6.out, hl, hl6, HB6.out⟩
  · go_wp2_with fail
    refine (pick_any R _ 4 _ (by omega) (by omega) HR4.out).mono ?_
    rintro e w5 ⟨v, rfl, hv, hr5, hg5⟩
    have hR4 : w1.heap.size ≤ w4.heap.size := by omega
    replace HO : Hid (OwnN w5 g cap xa) := Own.kept HO.out hg5 (by simp; omega)
    replace HO4 : Hid (OwnN w5 g4 cap4 x4) := Own.kept HO4.out hg5 (by simp; omega)
    have HR5 := Lib.hid hr5
    have HB5 := Lib.hid (HB4.out.trans (below_of_grown hg5 (by omega) (by omega)))
    have hz5 : w4.heap.size ≤ w5.heap.size := hg5.size
    have hv2 := pkB_lt hv (by omega)
    clear hv hr5 hg5
    by_cases hp : 0 < v
    · go_wp2_with fail
      go_ret2
      exact ⟨g, cap, g4, cap4, xa, x4, rfl, HO.out, HO4.out, hl, hl4, HB5.out⟩
    · clear HB4
      have HB4 := HB5
      clear HO4
      go_wp2_with fail
      refine (l92Notes_any R _ _ (by omega) HR5.out).mono ?_
      rintro e w6 ⟨g6, cap6, x6, rfl, ho6, hgz6, hl6, _, hr6, hg6⟩
      have HO6 := Lib.hid ho6
      have HOA : Hid (OwnN w6 g cap xa) := Own.kept HO.out hg6 (by simp; omega)
      have HB6 := Lib.hid (HB4.out.trans (below_of_grown hg6 (by omega) (by omega)))
      clear ho6 hr6 hg6
      go_wp2_with fail
      go_ret2
      exact ⟨g, cap, g6, cap6, xa, x6, rfl, HOA.out, HO6.out, hl, hl6, HB6.out⟩
end Go.Proofs.Ytokddeoliieofaa
