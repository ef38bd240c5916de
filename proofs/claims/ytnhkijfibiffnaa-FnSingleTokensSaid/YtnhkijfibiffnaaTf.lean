/-
  Walk: SingleTurn of the program, its rows in blocks of their own.
-/
import Derived.Test.YtnhkijfibiffnaaU
namespace Go.Proofs.Ytnhkijfibiffnaa
open Go.RowKit

/-- what SingleTurn and SingleLater of the program hand back, with blocks -/
def SgResF (ok : Bool) (y : Sg) (w : World) (e : Ending) (w' : World) : Prop :=
  ∃ v, e = .returned (.tuple #[v, .bool ok]) ∧ (ok = true → SgF w.heap.size w' v y) ∧ (ok = false → v = .agg #[.slice none 0 0, .slice none 0 0, .int .i64 0, .int .i64 0]) ∧ Below w.heap.size w w'

set_option maxHeartbeats 1000000 in
theorem implTurnF_any (v : Value) (x : Sg) (w : World) (hv : SgV w v x) (ha : x.na ≤ 1000000000000000) (hb : x.nb ≤ 1000000000000000) :
    Calls Try.prog 31 #[v] w (SgResF (sgOk x) (turnSg x) w) := by
  have hbb : ∀ a b, Below w.heap.size w ((w.alloc a).alloc b) := fun a b => ((Below.refl _ _).alloc (Nat.le_refl _) _).alloc (by simp) _
  have hv0 := hv
  obtain ⟨ba, oa, ca, bb, ob, cb, rfl, hca, hcb⟩ := hv
  have HCA := Lib.hid hca
  have HCB := Lib.hid hcb
  have HV := Lib.hid hv0
  clear hca hcb hv0
  go_enter Try.func31, Try.ntmps31
  go_wp2_with fail
  refine (implValid_any _ x _ (HV.out.keep (hbb _ _)) (by omega) (by omega)).mono ?_
  rintro e w1 ⟨rfl, hb1⟩
  have hz1 : w.heap.size + 2 ≤ w1.heap.size := by have := hb1.size; simpa using this
  have hb1' := hb1.mono (B' := w.heap.size + 2) (by simp)
  obtain ⟨hc1, hf1⟩ := bcellB hb1'
  have HB1 := Lib.hid hb1'
  clear hb1 hb1'
  cases hs : sgOk x
  · have HS := Lib.hid hs
    clear hs
    go_wp2_with fail
    refine bodyPost_ret (v := .tuple #[.agg #[.slice none 0 0, .slice none 0 0, .int .i64 0, .int .i64 0], .bool false]) (by simp [results, Try.results31, go_sem, hc1]) rfl ⟨_, by rw [HS.out], fun h => absurd (HS.out.symm.trans h) (by simp), fun _ => rfl, ?_⟩
    · have h0 := (hbb _ _).trans (HB1.out.mono (by omega))
      repeat (with_reducible first | exact h0 | refine Below.setCell ?_ (by dsimp only; omega) _)
  · have hle := sgOk_le hs
    have HS := Lib.hid hs
    clear hs
    go_wp2_with fail
    have hcA : Hid (IC w1 ba oa x.na x.A) := HCA.out.keep ((hbb _ _).trans (HB1.out.mono (by omega)))
    have hcB : Hid (IC w1 bb ob x.nb x.B) := HCB.out.keep ((hbb _ _).trans (HB1.out.mono (by omega)))
    go_region_held3 (fun w' => w'.cell? ⟨w.heap.size, 0, none⟩ = some (.slice (some ⟨ba, oa, none⟩) x.na ca) ∧ w'.cell? ⟨w.heap.size, 1, none⟩ = some (.slice (some ⟨bb, ob, none⟩) x.nb cb) ∧
        w'.cell? ⟨w.heap.size, 2, none⟩ = some (.int .i64 x.run) ∧ w'.cell? ⟨w.heap.size, 3, none⟩ = some (.int .i64 x.head)) (go_keep)
      (first | (go_at_call_of 70 bb; refine (clone_any _ _ _ _ x.B _ (by omega) (hcB.out.keep (Below.refl _ w1).drew)).mono ?_; rintro e w2 ⟨g2, c2, rfl, hg2, ho2, hb2⟩; have hz2 : w1.heap.size ≤ w2.heap.size := hb2.size; obtain ⟨hc2, hf2⟩ := bcellN hb2 (w.heap.size + 2) (by (try simp) <;> omega))
             | (go_at_call_of 70 ba; refine (clone_any _ _ _ _ x.A _ (by omega) ((hcA.out.keep (Below.refl _ w1).drew).keep hb2)).mono ?_; rintro e w3 ⟨g3, c3, rfl, hg3, ho3, hb3⟩; have hz3 : w2.heap.size ≤ w3.heap.size := hb3.size; obtain ⟨hc3, hf3⟩ := bcellN hb3 (w.heap.size + 2) (by omega)))
    have hb13 : Below w1.heap.size w1 w3 := ((Below.refl _ _).drew.trans (hb2.mono (by simp))).trans (hb3.mono (by omega))
    have HB3 := Lib.hid (HB1.out.trans (hb13.mono (by omega)))
    have HO2 := Lib.hid (ho2.below hb3 ho2.lt)
    have HO3 := Lib.hid ho3
    have hl2 := ho2.lt
    have hl3 := ho3.lt
    have hg2 : w1.heap.size ≤ g2 := hg2
    clear hb13 hb2 hb3 ho2 ho3
    go_wp2_with fail
    refine bodyPost_ret (v := .tuple #[.agg #[.slice (some ⟨g2, 0, none⟩) x.nb c2, .slice (some ⟨g3, 0, none⟩) x.na c3, .int .i64 x.run, .int .i64 x.head], .bool true]) (by simp [results, Try.results31, go_sem, hc1, hc2, hc3]) rfl ⟨_, by rw [HS.out], ?_, fun h => absurd (HS.out.symm.trans h) (by simp), ?_⟩
    · intro _
      show SgF _ _ _ (⟨x.B, x.nb, x.A, x.na, x.run, x.head⟩ : Sg)
      refine ⟨g2, c2, g3, c3, rfl, by omega, by omega, by omega, ?_, ?_⟩
      · have h0 := HO2.out
        repeat (with_reducible first | exact h0 | refine Own.setOther ?_ (by dsimp only; omega) _)
      · have h0 := HO3.out
        repeat (with_reducible first | exact h0 | refine Own.setOther ?_ (by dsimp only; omega) _)
    · have h0 := (hbb _ _).trans (HB3.out.mono (by omega))
      repeat (with_reducible first | exact h0 | refine Below.setCell ?_ (by dsimp only; omega) _)

end Go.Proofs.Ytnhkijfibiffnaa
