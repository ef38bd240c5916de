/-
  Walks: validity of single lines, and the number of orders.
-/
import Derived.Test.YtnhkijfibiffnaaB
namespace Go.Proofs.Ytnhkijfibiffnaa
open Go.RowKit

/-- a single line is valid -/
def sgOk (x : Sg) : Bool := rdy x.na x.A && (rdy x.nb x.B && (inB x.run 1 100 && inB x.head 1 x.run))

theorem specValid_any (v : Value) (x : Sg) (w : World) (hv : SgV w v x) (ha : x.na ≤ 1000000000000000) (hb : x.nb ≤ 1000000000000000) :
    Calls Try.prog 60 #[v] w fun e w' => e = .returned (.bool (sgOk x)) ∧ Below w.heap.size w w' := by
  obtain ⟨ba, oa, ca, bb, ob, cb, rfl, hca, hcb⟩ := hv
  obtain ⟨A, na, B, nb, run, head⟩ := x
  dsimp only at *
  have hbb : ∀ a, Below w.heap.size w (w.alloc a) := fun a => (Below.refl _ _).alloc (Nat.le_refl _) _
  cases h1 : rdy na A
  · have hs : sgOk ⟨A, na, B, nb, run, head⟩ = false := by simp [sgOk, h1]
    have HS := Lib.hid hs
    have H1 := Lib.hid h1
    clear hs h1
    go_enter Try.func60, Try.ntmps60
    go_wp2_with fail
    refine (l8Ready_any _ _ _ _ _ _ (by omega) (hca.keep (hbb _))).mono ?_
    rintro e w' ⟨rfl, rfl⟩
    rw [H1.out]
    go_wp2_with fail
    go_ret
    exact ⟨retB HS.out.symm, hbb _⟩
  cases h2 : rdy nb B
  · have hs : sgOk ⟨A, na, B, nb, run, head⟩ = false := by simp [sgOk, h2]
    have HS := Lib.hid hs
    have H1 := Lib.hid h1
    have H2 := Lib.hid h2
    clear hs h1 h2
    go_enter Try.func60, Try.ntmps60
    go_wp2_with fail
    refine (l8Ready_any _ _ _ _ _ _ (by omega) (hca.keep (hbb _))).mono ?_
    rintro e w' ⟨rfl, rfl⟩
    rw [H1.out]
    go_wp2_with fail
    refine (l8Ready_any _ _ _ _ _ _ (by omega) (hcb.keep (hbb _))).mono ?_
    rintro e w' ⟨rfl, rfl⟩
    rw [H2.out]
    go_wp2_with fail
    go_ret
    exact ⟨retB HS.out.symm, hbb _⟩
  have hs : sgOk ⟨A, na, B, nb, run, head⟩ = (inB run 1 100 && inB head 1 run) := by simp [sgOk, h1, h2]
  have HS := Lib.hid hs
  have H1 := Lib.hid h1
  have H2 := Lib.hid h2
  clear hs h1 h2
  go_enter Try.func60, Try.ntmps60
  go_wp2_with fail
  refine (l8Ready_any _ _ _ _ _ _ (by omega) (hca.keep (hbb _))).mono ?_
  rintro e w' ⟨rfl, rfl⟩
  rw [H1.out]
  go_wp2_with fail
  refine (l8Ready_any _ _ _ _ _ _ (by omega) (hcb.keep (hbb _))).mono ?_
  rintro e w' ⟨rfl, rfl⟩
  rw [H2.out]
  go_wp2_with fail
  refine (l6In_any _ _ _ _).mono ?_
  rintro e w' ⟨rfl, rfl⟩
  cases h3 : inB run 1 100
  · rw [h3] at HS
    have H3 := Lib.hid h3
    clear h3
    go_wp2_with fail
    go_ret
    exact ⟨retB HS.out.symm, hbb _⟩
  rw [h3] at HS
  have H3 := Lib.hid h3
  clear h3
  go_wp2_with fail
  refine (l6In_any _ _ _ _).mono ?_
  rintro e w' ⟨rfl, rfl⟩
  cases h4 : inB head 1 run
  all_goals
    rw [h4] at HS
    have H4 := Lib.hid h4
    clear h4
    go_wp2_with fail
    go_ret
    exact ⟨retB HS.out.symm, hbb _⟩

theorem implValid_any (v : Value) (x : Sg) (w : World) (hv : SgV w v x) (ha : x.na ≤ 1000000000000000) (hb : x.nb ≤ 1000000000000000) :
    Calls Try.prog 58 #[v] w fun e w' => e = .returned (.bool (sgOk x)) ∧ Below w.heap.size w w' := by
  obtain ⟨ba, oa, ca, bb, ob, cb, rfl, hca, hcb⟩ := hv
  obtain ⟨A, na, B, nb, run, head⟩ := x
  dsimp only at *
  have hbb : ∀ a, Below w.heap.size w (w.alloc a) := fun a => (Below.refl _ _).alloc (Nat.le_refl _) _
  by_cases hr : (1 ≤ run ∧ run ≤ 100) ∧ 1 ≤ head ∧ head ≤ run
  · obtain ⟨⟨r1, r2⟩, r3, r4⟩ := hr
    have hs : sgOk ⟨A, na, B, nb, run, head⟩ = (rdy na A && rdy nb B) := by simp [sgOk, inB_true.2 ⟨r1, r2⟩, inB_true.2 ⟨r3, r4⟩]
    have HS := Lib.hid hs
    clear hs
    go_enter Try.func58, Try.ntmps58
    go_wp2_with fail
    refine (readyValid_any _ _ _ _ _ _ (by omega) (hca.keep (hbb _))).mono ?_
    rintro e w' ⟨rfl, rfl⟩
    cases h1 : rdy na A
    · rw [h1] at HS
      have H1 := Lib.hid h1
      clear h1
      go_wp2_with fail
      go_ret
      exact ⟨retB HS.out.symm, hbb _⟩
    rw [h1] at HS
    have H1 := Lib.hid h1
    clear h1
    go_wp2_with fail
    refine (readyValid_any _ _ _ _ _ _ (by omega) (hcb.keep (hbb _))).mono ?_
    rintro e w' ⟨rfl, rfl⟩
    cases h2 : rdy nb B
    all_goals
      rw [h2] at HS
      have H2 := Lib.hid h2
      clear h2
      go_wp2_with fail
      go_ret
      exact ⟨retB HS.out.symm, hbb _⟩
  · have hs : sgOk ⟨A, na, B, nb, run, head⟩ = false := by
      have : (inB run 1 100 && inB head 1 run) = false := by simp [inB]; omega
      simp only [sgOk]
      rw [this]; simp
    have HS := Lib.hid hs
    clear hs
    by_cases r1 : run < 1
    · go_enter Try.func58, Try.ntmps58
      go_wp2_with fail
      go_ret
      exact ⟨retB HS.out.symm, hbb _⟩
    by_cases r2 : 100 < run
    · go_enter Try.func58, Try.ntmps58
      go_wp2_with fail
      go_ret
      exact ⟨retB HS.out.symm, hbb _⟩
    by_cases r3 : head < 1
    · go_enter Try.func58, Try.ntmps58
      go_wp2_with fail
      go_ret
      exact ⟨retB HS.out.symm, hbb _⟩
    have r4 : run < head := by omega
    clear hr
    go_enter Try.func58, Try.ntmps58
    go_wp2_with fail
    go_ret
    exact ⟨retB HS.out.symm, hbb _⟩
end Go.Proofs.Ytnhkijfibiffnaa
