/-
  slices.Collect over the iterator of moves; the program's LineMoves.
-/
import Derived.Test.YtbachpfgakjncaaMb
import Derived.Test.YtbachpfgakjncaaRb
namespace Go.Proofs.Ytbachpfgakjncaa
open Go.RowKit

/-- the numbers and the letters of a list of moves -/
def mvM (ys : List (Int × ByteArray)) (i : Nat) : Int := (ys[i]?.getD (0, ⟨#[]⟩)).1
def mvS (ys : List (Int × ByteArray)) (i : Nat) : ByteArray := (ys[i]?.getD (0, ⟨#[]⟩)).2
theorem mvC_at (ys : List (Int × ByteArray)) : ∀ i, i < ys.length * 2 → (mvC ys)[i]? = some (mvF (mvM ys) (mvS ys) i) := by
  induction ys with
  | nil => intro i hi; simp at hi
  | cons y ys ih =>
    intro i hi
    have e : mvC (y :: ys) = .int .i64 y.1 :: .string y.2 :: mvC ys := by simp [mvC]
    rw [e]
    match i with
    | 0 => simp [mvF, mvM]
    | 1 => simp [mvF, mvS]
    | i + 2 =>
      have h := ih i (by simp at hi; omega)
      simp only [List.getElem?_cons_succ]
      rw [h]
      unfold mvF
      have e1 : (i + 2) % 2 = i % 2 := by omega
      have e2 : (i + 2) / 2 = i / 2 + 1 := by omega
      rw [e1, e2]
      simp [mvM, mvS]
/-- a slice of moves in new memory, or nil where there are none -/
def RowMs (z : Nat) (W : World) (v : Value) (ys : List (Int × ByteArray)) (g : Option Nat) : Prop :=
  (∃ b c, g = some b ∧ v = .slice (some ⟨b, 0, none⟩) ys.length c ∧ z ≤ b ∧ Own W b c ys.length 2 34 (mvF (mvM ys) (mvS ys))) ∨ (g = none ∧ ys = [] ∧ v = .slice none 0 0)
theorem rowMs_of {z : Nat} {W : World} {v : Value} {ys : List (Int × ByteArray)} (h : W.ownsRow z 34 2 v ys.length (mvC ys)) : ∃ g, RowMs z W v ys g := by
  rcases h.2 with ⟨rfl, h0⟩ | ⟨g, cap, cur, rfl, hz, hg, hc, hm, hs, ht⟩
  · exact ⟨none, .inr ⟨rfl, List.length_eq_zero_iff.1 h0, rfl⟩⟩
  · refine ⟨some g, .inl ⟨g, cap, rfl, rfl, hz, hc, hm, cur, hg, hs, fun i hi => ?_⟩⟩
    rw [← mvC_at ys i hi, ← ht, List.getElem?_take_of_lt hi]
    simp
set_option linter.unusedSimpArgs false in
theorem collect_any (Bs r gb cb gt ct : Nat) (x : Ln) (hxn : x.n ≤ 1000000) (hxm : x.m ≤ 1000000) (w : World) (hBs : w.cell? ⟨Bs, 0, none⟩ = some (.pointer (some ⟨r, 0, none⟩))) (hB1 : Bs < w.heap.size) (hr : RwC w r gb cb gt ct x) :
    Calls Try.prog 47 #[.func (.func 84) #[] #[.pointer (some ⟨Bs, 0, none⟩)]] w fun e W' => (∃ v g, e = .returned v ∧ RowMs w.heap.size W' v (mvsL x) g) ∧ Below w.heap.size w W' := by
  have HA : Hid (Calls Try.prog 83 #[.slice none 0 0, .func (.func 84) #[] #[.pointer (some ⟨Bs, 0, none⟩)]] w fun e W' => ∃ v, e = .returned v ∧ W'.ownsRow w.heap.size 34 2 v (mvsL x).length (mvC (mvsL x)) ∧ Below w.heap.size w W') := callsIn_wide.1 (appendSeq_in 4 (Nat.le_refl _) Bs r gb cb gt ct x hxn hxm w hBs hB1 hr)
  clear hBs hB1 hr
  go_enter Try.func47, Try.ntmps47
  go_wp2_with fail
  refine HA.out.mono ?_
  rintro e w1 ⟨v, rfl, hv, hb⟩
  obtain ⟨g, hg⟩ := rowMs_of hv
  have HG := Lib.hid hg
  have HB := Lib.hid hb
  clear hv hg hb
  go_wp2_with fail
  go_ret
  exact ⟨⟨v, g, rfl, HG.out⟩, HB.out⟩
/-- the moves of a line -/
def lmL (x : Ln) : List (Int × ByteArray) := if vldL x = true then mvsL x else []
set_option linter.unusedSimpArgs false in
theorem lineMoves_any (bb bo cb tb tu ct : Nat) (x : Ln) (w : World) (hn : x.n ≤ 1000000000000) (hm : x.m ≤ 1000000000000) (hbk : BkC w bb bo x.n x.N x.I x.O) (hic : IC w tb tu x.m x.T) :
    Calls Try.prog 12 #[.agg #[.slice (some ⟨bb, bo, none⟩) x.n cb, .slice (some ⟨tb, tu, none⟩) x.m ct]] w fun e W' => (∃ v g, e = .returned v ∧ RowMs w.heap.size W' v (lmL x) g) ∧ Below w.heap.size w W' := by
  have HBB : Hid (∀ a, Below w.heap.size w (w.alloc a)) := fun a => below_all _ _
  have HRW : Hid (∀ w', Below w.heap.size w w' → Calls Try.prog 46 #[.agg #[.slice (some ⟨bb, bo, none⟩) x.n cb, .slice (some ⟨tb, tu, none⟩) x.m ct]] w' (RwO x w')) := fun w' hb => by
    refine railwayOf_any bb bo cb tb tu ct x w' hn hm ?_ (hic.keep hb)
    intro k hk
    obtain ⟨h0, h1, h2⟩ := hbk k hk
    have hlt : bb < w.heap.size := World.block_lt_of_cell? w ⟨bb, bo + k * 3, none⟩ h0
    exact ⟨by rw [hb.cell (p := ⟨bb, bo + k * 3, none⟩) hlt]; exact h0, by rw [hb.cell (p := ⟨bb, bo + k * 3 + 1, none⟩) hlt]; exact h1, by rw [hb.cell (p := ⟨bb, bo + k * 3 + 2, none⟩) hlt]; exact h2⟩
  clear hbk hic
  go_enter Try.func12, Try.ntmps12
  go_wp2_with fail
  refine (HRW.out _ (HBB.out _)).mono ?_
  rintro e w1 ⟨hb1, h1⟩
  have HB1 := Lib.hid ((HBB.out _).trans (hb1.mono (by simp)))
  rcases h1 with ⟨hv, s, rfl, r, gb, cb', gt, ct', rfl, hrw, k1, k2, k3⟩ | ⟨hv, rfl⟩
  · have HV : Hid (lmL x = mvsL x) := if_pos hv
    have hvl := vldL_true hv
    have HR := Lib.hid hrw
    have hxn : x.n ≤ 5 := hvl.2.1
    have hxm : x.m ≤ 5 := hvl.2.2.1
    clear hb1 hv hrw hvl k1 k2 k3
    go_wp2_with fail
    refine (moves_any _ _).mono ?_
    rintro e w2 ⟨rfl, rfl⟩
    have HB2 : Hid (∀ a, Below w.heap.size w (w1.alloc a)) := fun a => HB1.out.alloc HB1.out.size _
    have HCO : Hid (Calls Try.prog 47 #[.func (.func 84) #[] #[.pointer (some ⟨w1.heap.size, 0, none⟩)]] (w1.alloc (.cells #[.pointer (some ⟨r, 0, none⟩)] 64)) fun e W' => (∃ v g, e = .returned v ∧ RowMs (w1.alloc (.cells #[.pointer (some ⟨r, 0, none⟩)] 64)).heap.size W' v (mvsL x) g) ∧ Below (w1.alloc (.cells #[.pointer (some ⟨r, 0, none⟩)] 64)).heap.size (w1.alloc (.cells #[.pointer (some ⟨r, 0, none⟩)] 64)) W') :=
      collect_any w1.heap.size r gb cb' gt ct' x (by omega) (by omega) _ ((Bx.new _ _ _).cell 0) (by simp) (HR.out.below (below_all _ _) (Nat.le_refl _))
    go_wp2_with fail
    refine HCO.out.mono ?_
    rintro e w3 ⟨⟨v, g, rfl, hg⟩, hb3⟩
    have HB3 := Lib.hid ((HB2.out _).trans (hb3.mono (HB2.out _).size))
    have HG : Hid (RowMs w.heap.size w3 v (mvsL x) g) := by
      have hz := (HB2.out (.cells #[.pointer (some ⟨r, 0, none⟩)] 64)).size
      rcases hg with ⟨b, c, e1, e2, e3, e4⟩ | h
      · exact .inl ⟨b, c, e1, e2, by omega, e4⟩
      · exact .inr h
    clear hb3 hg
    go_wp2_with fail
    go_ret
    exact ⟨⟨v, g, rfl, by rw [HV.out]; exact HG.out⟩, HB3.out⟩
  · have HV : Hid (lmL x = []) := by show _ = _; unfold lmL; rw [hv]; rfl
    have HO : Hid (RowMs w.heap.size (w1.alloc (.cells #[] 34)) (.slice (some ⟨w1.heap.size, 0, none⟩) 0 0) [] (some w1.heap.size)) := .inl ⟨_, 0, rfl, rfl, HB1.out.size, own_empty _ _ _ _⟩
    have HB2 : Hid (∀ a, Below w.heap.size w (w1.alloc a)) := fun a => HB1.out.alloc HB1.out.size _
    clear hb1 hv
    go_wp2_with fail
    go_ret
    exact ⟨⟨_, _, rfl, by rw [HV.out]; exact HO.out⟩, HB2.out _⟩
end Go.Proofs.Ytbachpfgakjncaa
