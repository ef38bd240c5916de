/-
  FnExactSingleLater returns true for every single line and every whole number that are read as data; the arguments read as before. No condition.
-/
import Derived.Test.YtdmofgogpdodfaaLLa
import Derived.Test.YtdmofgogpdodfaaRows1
namespace Go.Proofs.Ytdmofgogpdodfaa
open Go.ChangeShapes Go.WideShapes Go.ChangeAt Go.RowKit

set_option maxRecDepth 100000 in
theorem fnExactSingleLater_lifted (os : Os) (started : os.Started) (H : Type) (enc : TypeId × Value → H) :
    ReturnsInHanded {} Try.checked os 7 .any (Rows.fnExactSingleLaterSpec.pre6 enc Try.prog Try.f7 Rows.fnExactSingleLaterRow.domain false) (Rows.fnExactSingleLaterSpec.post enc Try.prog Try.f7 false true false false) := by
  refine returnsInHanded_of_change (C := Try.checked) own started (by kernel_rfl) Try.func7
    (ChangeSpec.witness6 (enc := enc) (C := Try.checked) false ⟨#[], #[.agg #[.slice none 0 0, .slice none 0 0, .int .i64 0, .int .i64 0], .int .i64 0], []⟩ 8 (by kernel_rfl) (by kernel_rfl) (by kernel_rfl) (by kernel_rfl)) ?_
  intro W base args ds gs before hval0 hW _ _
  have hval : ∀ (j : Nat) t v, Try.f7.params[j]? = some t → args[j]? = some v → Value.okWide Try.prog W .any base t v := hval0
  have hW' := hW
  obtain ⟨p, q, hA0, hV, rfl, _, _⟩ := hW
  have hA : DataW.TrodAll enc Try.prog W 0 (fun _ => true) true Try.f7.params.toList args.toList ds p := hA0
  rw [Try.params7] at hA hval
  obtain ⟨v0, v1, d0, d1, p0, p1, rfl, rfl, rfl, h0, h1⟩ := trodAll_two hA
  obtain ⟨rfl, rfl⟩ := trodVars_none hV
  have h0k := h0
  obtain ⟨c0, c1, c2, c3, y0, y1, y2, y3, m, rfl, rfl, rfl, hy0, hy1, hy2, hy3⟩ := Joins.open_agg4 Try.underlying24 (by kernel_rfl) (by kernel_rfl) (hval 0 24 v0 rfl rfl) h0
  obtain ⟨r, rfl, rfl, rfl, wr⟩ := open_int Try.underlying3 (hval 1 3 v1 rfl rfl) h1
  obtain ⟨na, A, hsa, hna⟩ := open_SL hy0 (fun _ => rfl)
  obtain ⟨nb, B, hsb, hnb⟩ := open_SL hy1 (fun _ => rfl)
  obtain ⟨run, e2, rfl, wx⟩ := DataW.trod_int Try.underlying3 hy2
  obtain ⟨head, e3, rfl, wy⟩ := DataW.trod_int Try.underlying3 hy3
  simp at e2 e3
  subst e2 e3
  clear hA0 hval0
  simp only [List.append_nil] at hW'
  have hlt : ∀ z ∈ y0.2 ++ (y1.2 ++ ([] ++ [])), z.block < W.heap.size := fun z hz => by have := hW'.lt z; simp at this hz ⊢; exact this hz
  have hr : -9223372036854775808 ≤ r ∧ r ≤ 9223372036854775807 := by simpa [Lit.wf, IntKind.min, IntKind.max, IntKind.signed, IntKind.bits] using wr
  have fin : ∀ (e : Ending) (W' : World), (e = .returned (.bool true) ∧ Below W.heap.size W W') → ∃ v, e = .returned v ∧ Rows.fnExactSingleLaterSpec.post enc Try.checked.prog Try.f7 false true false false W #[.agg #[c0, c1, .int .i64 run, .int .i64 head], .int .i64 r] v W' := fun e W' ⟨he, hb⟩ => by
    subst he
    exact ⟨_, rfl, _, _, _, [], _, [], hW', trodAll_cons_mk (shut_bool Try.underlying4 _) trodAll_mk0, trodAll_mk2 (Below.trod laidOut (by kernel_rfl) (of_decide_eq_true (by kernel_rfl)) h0k hb hlt) (shut_int Try.underlying3 wr), rfl, hb.frame _, fun h => by cases h⟩
  exact (lawLater_any _ ⟨A, na, B, nb, run, head⟩ W r hr ⟨_, _, rfl, hsa, hsb⟩ hna hnb).mono fin

theorem fnExactSingleLater_proved : Rows.FnExactSingleLaterSaid :=
  OpenClaim.holds_of_wide 7 Try.f7 rfl rfl rfl rfl rfl rfl rfl ⟨rfl, rfl, rfl, rfl, rfl⟩ rfl rfl rfl rfl rfl (by kernel_rfl) Try.func7 (by kernel_rfl)
    (of_decide_eq_true (by kernel_rfl)) (by unfold Func.isWrapper; first | (rw [if_pos (by decide +kernel)]; kernel_rfl) | (rw [if_neg (by decide +kernel)]; exact ⟨rfl, rfl⟩))
    (fun os started H enc _ => fnExactSingleLater_lifted os started H enc)
end Go.Proofs.Ytdmofgogpdodfaa
