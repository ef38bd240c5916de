/-
  Walks: copies of slices, SingleTurn.
-/
import Derived.Test.YtnhkijfibiffnaaD
import Derived.Test.YtnhkijfibiffnaaM
namespace Go.Proofs.Ytnhkijfibiffnaa
open Go.RowKit

theorem ic_new {w : World} {b off n : Nat} {f : Nat → Int} (h : IC w b off n f) : ∀ j, j < n * 1 → w.cell? ((⟨b, off, none⟩ : Addr).add j) = some ((fun i => Value.int .i64 (f i)) (0 * 1 + j)) := by
  intro j hj
  rw [addr_add, h j (by omega)]
  simp

theorem clone_any (b off n c : Nat) (f : Nat → Int) (w : World) (hn : n ≤ 1000000000000) (hc : IC w b off n f) :
    Calls Try.prog 70 #[.slice (some ⟨b, off, none⟩) n c] w fun e w' => ∃ g c', e = .returned (.slice (some ⟨g, 0, none⟩) n c') ∧ w.heap.size ≤ g ∧ Own w' g c' n 1 3 (fun i => .int .i64 (f i)) ∧ Below w.heap.size w w' := by
  have hnil := fun w => Lib.run_eql_slice_nil (P := Try.prog) w 23 3 (some ⟨b, off, none⟩) n c 0 0 Try.underlying23
  have hbb : ∀ a, Below w.heap.size w (w.alloc a) := fun a => (Below.refl _ _).alloc (Nat.le_refl _) _
  have HC := Lib.hid hc
  clear hc
  go_enter Try.func70, Try.ntmps70
  go_wp2_with (at_builtin; refine wpList_app elInt rfl (.tmp 5) (.tmp 6) rfl (own_empty w 1 _ (fun i => .int .i64 (f i))) rfl ⟨b, off, none⟩ n c rfl (ic_new (HC.out.keep (hbb _))) (fun _ _ => rfl) (by unfold maxLen; omega) (by omega) ?_; intro g' c' wa HA hgr hd)
  have z := hgr.size
  rw [World.size_alloc] at z hd
  have hle : w.heap.size ≤ g' := by omega
  have hbl := (hbb (.cells #[] 3)).trans (below_of_grown hgr (Nat.le_refl _) (by simp))
  rw [Nat.zero_add] at HA
  have HO := Lib.hid HA
  have HBL := Lib.hid hbl
  clear HA hbl hgr hd
  go_wp2_with fail
  go_ret
  exact ⟨g', c', by simp, hle, HO.out, HBL.out⟩


theorem OI.shape {lo hi : Nat} {w : World} {v : Value} {n : Nat} {f : Nat → Int} (h : OI lo hi w v n f) : ∃ r c, v = .slice r n c := by
  rcases h with ⟨g, c, rfl, _⟩ | ⟨rfl, rfl⟩
  · exact ⟨_, _, rfl⟩
  · exact ⟨_, _, rfl⟩
theorem SgI.shape {lo hi : Nat} {w : World} {v : Value} {x : Sg} (h : SgI lo hi w v x) : ∃ ra ca rb cb, v = .agg #[.slice ra x.na ca, .slice rb x.nb cb, .int .i64 x.run, .int .i64 x.head] := by
  obtain ⟨va, vb, rfl, h1, h2, _⟩ := h
  obtain ⟨ra, ca, rfl⟩ := h1.shape
  obtain ⟨rb, cb, rfl⟩ := h2.shape
  exact ⟨_, _, _, _, rfl⟩

/-- the line with both ends exchanged -/
def turnSg (x : Sg) : Sg := ⟨x.B, x.nb, x.A, x.na, x.run, x.head⟩
def zeroSg : Sg := ⟨fun _ => 0, 0, fun _ => 0, 0, 0, 0⟩
/-- what SingleTurn and SingleLater hand back -/
def SgRes (ok : Bool) (y : Sg) (w : World) (e : Ending) (w' : World) : Prop :=
  ∃ v, e = .returned (.tuple #[v, .bool ok]) ∧ SgI w.heap.size w'.heap.size w' v (if ok = true then y else zeroSg) ∧ Below w.heap.size w w'

set_option maxHeartbeats 1000000 in
theorem implTurn_any (v : Value) (x : Sg) (w : World) (hv : SgV w v x) (ha : x.na ≤ 1000000000000000) (hb : x.nb ≤ 1000000000000000) :
    Calls Try.prog 31 #[v] w (SgRes (sgOk x) (turnSg x) w) := by
  have hbb : ∀ a b, Below w.heap.size w ((w.alloc a).alloc b) := fun a b => ((Below.refl _ _).alloc (Nat.le_refl _) _).alloc (by simp) _
  have hv0 := hv
  obtain ⟨ba, oa, ca, bb, ob, cb, rfl, hca, hcb⟩ := hv
  have HCA := Lib.hid hca
  have HCB := Lib.hid hcb
  have HV := Lib.hid hv0
  clear hca hcb hv0
  go_enter Try.func31, Try.ntmps31
  go_wp2_with fail
  refine (implValid_any _ x _ (HV.out.keep (hbb _ _)) (by omega) (by omega)).mono ?_
  rintro e w1 ⟨rfl, hb1⟩
  have hz1 : w.heap.size + 2 ≤ w1.heap.size := by have := hb1.size; simpa using this
  have hb1' := hb1.mono (B' := w.heap.size + 2) (by simp)
  obtain ⟨hc1, hf1⟩ := bcellB hb1'
  have HB1 := Lib.hid hb1'
  clear hb1 hb1'
  cases hs : sgOk x
  · have HS := Lib.hid hs
    clear hs
    go_wp2_with fail
    refine bodyPost_ret (v := .tuple #[.agg #[.slice none 0 0, .slice none 0 0, .int .i64 0, .int .i64 0], .bool false]) (by simp [results, Try.results31, go_sem, hc1]) rfl ⟨_, by rw [HS.out], ?_, ?_⟩
    · rw [HS.out]
      exact ⟨_, _, rfl, .inr ⟨rfl, rfl⟩, .inr ⟨rfl, rfl⟩, fun k hk => by simp [Value.ownBlock] at hk⟩
    · have h0 := (hbb _ _).trans (HB1.out.mono (by omega))
      repeat (with_reducible first | exact h0 | refine Below.setCell ?_ (by dsimp only; omega) _)
  · have hle := sgOk_le hs
    have HS := Lib.hid hs
    clear hs
    go_wp2_with fail
    have hcA : Hid (IC w1 ba oa x.na x.A) := HCA.out.keep ((hbb _ _).trans (HB1.out.mono (by omega)))
    have hcB : Hid (IC w1 bb ob x.nb x.B) := HCB.out.keep ((hbb _ _).trans (HB1.out.mono (by omega)))
    go_region_held3 (fun w' => w'.cell? ⟨w.heap.size, 0, none⟩ = some (.slice (some ⟨ba, oa, none⟩) x.na ca) ∧ w'.cell? ⟨w.heap.size, 1, none⟩ = some (.slice (some ⟨bb, ob, none⟩) x.nb cb) ∧
        w'.cell? ⟨w.heap.size, 2, none⟩ = some (.int .i64 x.run) ∧ w'.cell? ⟨w.heap.size, 3, none⟩ = some (.int .i64 x.head)) (go_keep)
      (first | (go_at_call_of 70 bb; refine (clone_any _ _ _ _ x.B _ (by omega) (hcB.out.keep (Below.refl _ w1).drew)).mono ?_; rintro e w2 ⟨g2, c2, rfl, hg2, ho2, hb2⟩; have hz2 : w1.heap.size ≤ w2.heap.size := hb2.size; obtain ⟨hc2, hf2⟩ := bcellN hb2 (w.heap.size + 2) (by (try simp) <;> omega))
             | (go_at_call_of 70 ba; refine (clone_any _ _ _ _ x.A _ (by omega) ((hcA.out.keep (Below.refl _ w1).drew).keep hb2)).mono ?_; rintro e w3 ⟨g3, c3, rfl, hg3, ho3, hb3⟩; have hz3 : w2.heap.size ≤ w3.heap.size := hb3.size; obtain ⟨hc3, hf3⟩ := bcellN hb3 (w.heap.size + 2) (by omega)))
    have hb13 : Below w1.heap.size w1 w3 := ((Below.refl _ _).drew.trans (hb2.mono (by simp))).trans (hb3.mono (by omega))
    have HB3 := Lib.hid (HB1.out.trans (hb13.mono (by omega)))
    have HO2 := Lib.hid (ho2.below hb3 ho2.lt)
    have HO3 := Lib.hid ho3
    have hl2 := ho2.lt
    have hl3 := ho3.lt
    have hg2 : w1.heap.size ≤ g2 := hg2
    clear hb13 hb2 hb3 ho2 ho3
    go_wp2_with fail
    refine bodyPost_ret (v := .tuple #[.agg #[.slice (some ⟨g2, 0, none⟩) x.nb c2, .slice (some ⟨g3, 0, none⟩) x.na c3, .int .i64 x.run, .int .i64 x.head], .bool true]) (by simp [results, Try.results31, go_sem, hc1, hc2, hc3]) rfl ⟨_, by rw [HS.out], ?_, ?_⟩
    · rw [HS.out, if_pos rfl]
      show SgI _ _ _ _ (⟨x.B, x.nb, x.A, x.na, x.run, x.head⟩ : Sg)
      refine ⟨_, _, rfl, .inl ⟨g2, c2, rfl, by omega, by simp [World.setCell]; omega, ?_⟩, .inl ⟨g3, c3, rfl, by omega, by simp [World.setCell]; omega, ?_⟩, fun k hk => by simp [Value.ownBlock] at hk ⊢; omega⟩
      · have h0 := HO2.out
        repeat (with_reducible first | exact h0 | refine Own.setOther ?_ (by dsimp only; omega) _)
      · have h0 := HO3.out
        repeat (with_reducible first | exact h0 | refine Own.setOther ?_ (by dsimp only; omega) _)
    · have h0 := (hbb _ _).trans (HB3.out.mono (by omega))
      repeat (with_reducible first | exact h0 | refine Below.setCell ?_ (by dsimp only; omega) _)

set_option maxHeartbeats 2000000 in
theorem specTurn_any (v : Value) (x : Sg) (w : World) (hv : SgV w v x) (ha : x.na ≤ 1000000000000000) (hb : x.nb ≤ 1000000000000000) :
    Calls Try.prog 32 #[v] w (SgRes (sgOk x) (turnSg x) w) := by
  have hbb : ∀ a b, Below w.heap.size w ((w.alloc a).alloc b) := fun a b => ((Below.refl _ _).alloc (Nat.le_refl _) _).alloc (by simp) _
  have hv0 := hv
  obtain ⟨ba, oa, ca, bb, ob, cb, rfl, hca, hcb⟩ := hv
  have HCA := Lib.hid hca
  have HCB := Lib.hid hcb
  have HV := Lib.hid hv0
  clear hca hcb hv0
  go_enter Try.func32, Try.ntmps32
  go_wp2_with fail
  refine (specValid_any _ x _ (HV.out.keep (hbb _ _)) (by omega) (by omega)).mono ?_
  rintro e w1 ⟨rfl, hb1⟩
  have hz1 : w.heap.size + 2 ≤ w1.heap.size := by have := hb1.size; simpa using this
  have hb1' := hb1.mono (B' := w.heap.size + 2) (by simp)
  obtain ⟨hc1, hf1⟩ := bcellB hb1'
  have HB1 := Lib.hid hb1'
  clear hb1 hb1'
  cases hs : sgOk x
  · have HS := Lib.hid hs
    clear hs
    go_wp2_with fail
    refine bodyPost_ret (v := .tuple #[.agg #[.slice none 0 0, .slice none 0 0, .int .i64 0, .int .i64 0], .bool false]) (by simp [results, Try.results32, go_sem, hc1]) rfl ⟨_, by rw [HS.out], ?_, ?_⟩
    · rw [HS.out]
      exact ⟨_, _, rfl, .inr ⟨rfl, rfl⟩, .inr ⟨rfl, rfl⟩, fun k hk => by simp [Value.ownBlock] at hk⟩
    · have h0 := (hbb _ _).trans (HB1.out.mono (by omega))
      repeat (with_reducible first | exact h0 | refine Below.setCell ?_ (by dsimp only; omega) _)
  have hle := sgOk_le hs
  have HS := Lib.hid hs
  clear hs
  go_wp2_with fail
  have hcA : Hid (IC w1 ba oa x.na x.A) := HCA.out.keep ((hbb _ _).trans (HB1.out.mono (by omega)))
  have hcB : Hid (IC w1 bb ob x.nb x.B) := HCB.out.keep ((hbb _ _).trans (HB1.out.mono (by omega)))
  have b1 : Hid (∀ a, Below w1.heap.size w1 (w1.drew.alloc a)) := fun a => (Below.refl _ w1).drew.alloc (Nat.le_refl _) a
  have b2 : Hid (∀ a b, Below w1.heap.size w1 ((w1.drew.alloc a).alloc b)) := fun a b => ((Below.refl _ w1).drew.alloc (Nat.le_refl _) a).alloc (by simp) b
  have h2 : Hid (∀ a b, ((w1.drew.alloc a).alloc b).cell? ⟨w.heap.size, 0, none⟩ = some (.slice (some ⟨ba, oa, none⟩) x.na ca) ∧ ((w1.drew.alloc a).alloc b).cell? ⟨w.heap.size, 1, none⟩ = some (.slice (some ⟨bb, ob, none⟩) x.nb cb) ∧ ((w1.drew.alloc a).alloc b).cell? ⟨w.heap.size, 2, none⟩ = some (.int .i64 x.run) ∧ ((w1.drew.alloc a).alloc b).cell? ⟨w.heap.size, 3, none⟩ = some (.int .i64 x.head)) := fun a b => ⟨((b2.out a b).cell (p := ⟨w.heap.size, 0, none⟩) (by show w.heap.size < w1.heap.size; omega)).trans (by simp [hc1]), ((b2.out a b).cell (p := ⟨w.heap.size, 1, none⟩) (by show w.heap.size < w1.heap.size; omega)).trans (by simp [hc1]), ((b2.out a b).cell (p := ⟨w.heap.size, 2, none⟩) (by show w.heap.size < w1.heap.size; omega)).trans (by simp [hc1]), ((b2.out a b).cell (p := ⟨w.heap.size, 3, none⟩) (by show w.heap.size < w1.heap.size; omega)).trans (by simp [hc1])⟩
  have o2 : Hid (∀ f, Own ((w1.drew.alloc (.cells #[] 3)).alloc (.cells #[] 3)) (w1.heap.size + 1) 0 0 1 3 f) := fun f => by have h := own_empty (w1.drew.alloc (.cells #[] 3)) 1 3 f; rwa [World.size_alloc] at h
  go_region_held3 (fun w' => w'.cell? ⟨w.heap.size, 0, none⟩ = some (.slice (some ⟨ba, oa, none⟩) x.na ca) ∧ w'.cell? ⟨w.heap.size, 1, none⟩ = some (.slice (some ⟨bb, ob, none⟩) x.nb cb) ∧
      w'.cell? ⟨w.heap.size, 2, none⟩ = some (.int .i64 x.run) ∧ w'.cell? ⟨w.heap.size, 3, none⟩ = some (.int .i64 x.head)) (first | (go_keep; done) | exact h2.out _ _)
    (first | (refine step_app elInt rfl (.tmp 8) (.tmp 10) rfl (own_empty w1.drew 1 _ (fun i => .int .i64 (x.B i))) rfl ⟨bb, ob, none⟩ x.nb cb rfl (ic_new (hcB.out.keep (b1.out _))) (fun _ _ => rfl) (by unfold maxLen; omega) (by omega) ?_
              intro gA cA wA HA hgrA hdA
              have hbA := (b1.out _).trans (below_of_grown hgrA (B := w1.heap.size) (by simp) (by simp))
              have hbA2 := below_of_grown hgrA (B := w.heap.size + 2) (by (try simp) <;> omega) (by simp <;> omega)
              have k0 : wA.cell? ⟨w.heap.size, 0, none⟩ = some (.slice (some ⟨ba, oa, none⟩) x.na ca) := (hbA2.cell (p := ⟨w.heap.size, 0, none⟩) (by show w.heap.size < w.heap.size + 2; omega)).trans (by go_keep)
              have k1 : wA.cell? ⟨w.heap.size, 1, none⟩ = some (.slice (some ⟨bb, ob, none⟩) x.nb cb) := (hbA2.cell (p := ⟨w.heap.size, 1, none⟩) (by show w.heap.size < w.heap.size + 2; omega)).trans (by go_keep)
              have k2 : wA.cell? ⟨w.heap.size, 2, none⟩ = some (.int .i64 x.run) := (hbA2.cell (p := ⟨w.heap.size, 2, none⟩) (by show w.heap.size < w.heap.size + 2; omega)).trans (by go_keep)
              have k3 : wA.cell? ⟨w.heap.size, 3, none⟩ = some (.int .i64 x.head) := (hbA2.cell (p := ⟨w.heap.size, 3, none⟩) (by show w.heap.size < w.heap.size + 2; omega)).trans (by go_keep)
              clear hbA2)
           | (refine step_app elInt rfl (.tmp 8) (.tmp 10) rfl ((own_empty w1.drew 1 _ (fun i => .int .i64 (x.B i))).alloc _) rfl ⟨bb, ob, none⟩ x.nb cb rfl (ic_new (hcB.out.keep (b2.out _ _))) (fun _ _ => rfl) (by unfold maxLen; omega) (by omega) ?_
              intro gA cA wA HA hgrA hdA
              have hbA := (b2.out _ _).trans (below_of_grown hgrA (B := w1.heap.size) (by simp) (by (try simp) <;> omega))
              have hbA2 := below_of_grown hgrA (B := w.heap.size + 2) (by (try simp) <;> omega) (by simp <;> omega)
              have k0 : wA.cell? ⟨w.heap.size, 0, none⟩ = some (.slice (some ⟨ba, oa, none⟩) x.na ca) := (hbA2.cell (p := ⟨w.heap.size, 0, none⟩) (by show w.heap.size < w.heap.size + 2; omega)).trans (by go_keep)
              have k1 : wA.cell? ⟨w.heap.size, 1, none⟩ = some (.slice (some ⟨bb, ob, none⟩) x.nb cb) := (hbA2.cell (p := ⟨w.heap.size, 1, none⟩) (by show w.heap.size < w.heap.size + 2; omega)).trans (by go_keep)
              have k2 : wA.cell? ⟨w.heap.size, 2, none⟩ = some (.int .i64 x.run) := (hbA2.cell (p := ⟨w.heap.size, 2, none⟩) (by show w.heap.size < w.heap.size + 2; omega)).trans (by go_keep)
              have k3 : wA.cell? ⟨w.heap.size, 3, none⟩ = some (.int .i64 x.head) := (hbA2.cell (p := ⟨w.heap.size, 3, none⟩) (by show w.heap.size < w.heap.size + 2; omega)).trans (by go_keep)
              clear hbA2)
           | (refine step_app elInt rfl (.tmp 8) (.tmp 10) rfl (o2.out (fun i => .int .i64 (x.B i))) rfl ⟨bb, ob, none⟩ x.nb cb rfl (ic_new (hcB.out.keep (b2.out _ _))) (fun _ _ => rfl) (by unfold maxLen; omega) (by omega) ?_
              intro gA cA wA HA hgrA hdA
              have hbA := (b2.out _ _).trans (below_of_grown hgrA (B := w1.heap.size) (by simp) (by (try simp) <;> omega))
              have hbA2 := below_of_grown hgrA (B := w.heap.size + 2) (by (try simp) <;> omega) (by simp <;> omega)
              have k0 : wA.cell? ⟨w.heap.size, 0, none⟩ = some (.slice (some ⟨ba, oa, none⟩) x.na ca) := (hbA2.cell (p := ⟨w.heap.size, 0, none⟩) (by show w.heap.size < w.heap.size + 2; omega)).trans (by go_keep)
              have k1 : wA.cell? ⟨w.heap.size, 1, none⟩ = some (.slice (some ⟨bb, ob, none⟩) x.nb cb) := (hbA2.cell (p := ⟨w.heap.size, 1, none⟩) (by show w.heap.size < w.heap.size + 2; omega)).trans (by go_keep)
              have k2 : wA.cell? ⟨w.heap.size, 2, none⟩ = some (.int .i64 x.run) := (hbA2.cell (p := ⟨w.heap.size, 2, none⟩) (by show w.heap.size < w.heap.size + 2; omega)).trans (by go_keep)
              have k3 : wA.cell? ⟨w.heap.size, 3, none⟩ = some (.int .i64 x.head) := (hbA2.cell (p := ⟨w.heap.size, 3, none⟩) (by show w.heap.size < w.heap.size + 2; omega)).trans (by go_keep)
              clear hbA2)
           | (refine step_app elInt rfl (.tmp 12) (.tmp 14) rfl (own_empty wA 1 _ (fun i => .int .i64 (x.A i))) rfl ⟨ba, oa, none⟩ x.na ca rfl (ic_new (hcA.out.keep (hbA.alloc (by have := hbA.size; omega) _))) (fun _ _ => rfl) (by unfold maxLen; omega) (by omega) ?_
              intro gB cB wB HB hgrB hdB
              have hbB := (hbA.alloc (by have := hbA.size; omega) _).trans (below_of_grown hgrB (B := w1.heap.size) hbA.size (by simp; have := hbA.size; omega))
              have hbB2 := below_of_grown hgrB (B := w.heap.size + 2) (by have := hbA.size; omega) (by simp; have := hbA.size; omega)
              have m0 : wB.cell? ⟨w.heap.size, 0, none⟩ = some (.slice (some ⟨ba, oa, none⟩) x.na ca) := (hbB2.cell (p := ⟨w.heap.size, 0, none⟩) (by show w.heap.size < w.heap.size + 2; omega)).trans (by go_keep)
              have m1 : wB.cell? ⟨w.heap.size, 1, none⟩ = some (.slice (some ⟨bb, ob, none⟩) x.nb cb) := (hbB2.cell (p := ⟨w.heap.size, 1, none⟩) (by show w.heap.size < w.heap.size + 2; omega)).trans (by go_keep)
              have m2 : wB.cell? ⟨w.heap.size, 2, none⟩ = some (.int .i64 x.run) := (hbB2.cell (p := ⟨w.heap.size, 2, none⟩) (by show w.heap.size < w.heap.size + 2; omega)).trans (by go_keep)
              have m3 : wB.cell? ⟨w.heap.size, 3, none⟩ = some (.int .i64 x.head) := (hbB2.cell (p := ⟨w.heap.size, 3, none⟩) (by show w.heap.size < w.heap.size + 2; omega)).trans (by go_keep)
              have hoA := (HA.alloc (.cells #[] 3)).kept hgrB (by have := HA.lt; simp; omega)
              have hlB : w1.heap.size ≤ gB := by have := hbA.size; (try simp at hdB); omega
              have hlA : w1.heap.size ≤ gA := by (try simp at hdA); omega
              have hne : gA ≠ gB := by have h5 := HA.lt; (try simp at hdA); (try simp at hdB); omega
              have hoB := HB
              have hbZ := hbB.mono (B' := w.heap.size + 2) (by omega)
              have z0 : wB.cell? ⟨w.heap.size + 1, 0, none⟩ = some (.slice none 0 0) := (hbZ.cell (p := ⟨w.heap.size + 1, 0, none⟩) (by show w.heap.size + 1 < w.heap.size + 2; omega)).trans (by simp [hc1])
              have z1 : wB.cell? ⟨w.heap.size + 1, 1, none⟩ = some (.slice none 0 0) := (hbZ.cell (p := ⟨w.heap.size + 1, 1, none⟩) (by show w.heap.size + 1 < w.heap.size + 2; omega)).trans (by simp [hc1])
              have z2 : wB.cell? ⟨w.heap.size + 1, 2, none⟩ = some (.int .i64 0) := (hbZ.cell (p := ⟨w.heap.size + 1, 2, none⟩) (by show w.heap.size + 1 < w.heap.size + 2; omega)).trans (by simp [hc1])
              have z3 : wB.cell? ⟨w.heap.size + 1, 3, none⟩ = some (.int .i64 0) := (hbZ.cell (p := ⟨w.heap.size + 1, 3, none⟩) (by show w.heap.size + 1 < w.heap.size + 2; omega)).trans (by simp [hc1])
              have zf : ∀ o, wB.frozen? ⟨w.heap.size + 1, o, none⟩ = false := fun o => (hbZ.frozen (p := ⟨w.heap.size + 1, o, none⟩) (by show w.heap.size + 1 < w.heap.size + 2; omega)).trans (by simp [hf1])
              clear hbB2 hbZ hbA HA HB hgrA hgrB hdA hdB)
           | (refine step_app elInt rfl (.tmp 12) (.tmp 14) rfl ((o2.out (fun i => .int .i64 (x.A i))).kept hgrA (by simp)) rfl ⟨ba, oa, none⟩ x.na ca rfl (ic_new (hcA.out.keep hbA)) (fun _ _ => rfl) (by unfold maxLen; omega) (by omega) ?_
              intro gB cB wB HB hgrB hdB
              have hbB := hbA.trans (below_of_grown hgrB (B := w1.heap.size) (by simp) hbA.size)
              have hbB2 := below_of_grown hgrB (B := w.heap.size + 2) (by (try simp) <;> omega) (by have := hbA.size; omega)
              have m0 : wB.cell? ⟨w.heap.size, 0, none⟩ = some (.slice (some ⟨ba, oa, none⟩) x.na ca) := (hbB2.cell (p := ⟨w.heap.size, 0, none⟩) (by show w.heap.size < w.heap.size + 2; omega)).trans (by go_keep)
              have m1 : wB.cell? ⟨w.heap.size, 1, none⟩ = some (.slice (some ⟨bb, ob, none⟩) x.nb cb) := (hbB2.cell (p := ⟨w.heap.size, 1, none⟩) (by show w.heap.size < w.heap.size + 2; omega)).trans (by go_keep)
              have m2 : wB.cell? ⟨w.heap.size, 2, none⟩ = some (.int .i64 x.run) := (hbB2.cell (p := ⟨w.heap.size, 2, none⟩) (by show w.heap.size < w.heap.size + 2; omega)).trans (by go_keep)
              have m3 : wB.cell? ⟨w.heap.size, 3, none⟩ = some (.int .i64 x.head) := (hbB2.cell (p := ⟨w.heap.size, 3, none⟩) (by show w.heap.size < w.heap.size + 2; omega)).trans (by go_keep)
              have hoA := HA.kept hgrB (by (try simp at hdA); simp; omega)
              have hlB : w1.heap.size ≤ gB := by have := hbA.size; (try simp at hdB); omega
              have hlA : w1.heap.size ≤ gA := by (try simp at hdA); omega
              have hne : gA ≠ gB := by have h5 := HA.lt; (try simp at hdA); (try simp at hdB); omega
              have hoB := HB
              have hbZ := hbB.mono (B' := w.heap.size + 2) (by omega)
              have z0 : wB.cell? ⟨w.heap.size + 1, 0, none⟩ = some (.slice none 0 0) := (hbZ.cell (p := ⟨w.heap.size + 1, 0, none⟩) (by show w.heap.size + 1 < w.heap.size + 2; omega)).trans (by simp [hc1])
              have z1 : wB.cell? ⟨w.heap.size + 1, 1, none⟩ = some (.slice none 0 0) := (hbZ.cell (p := ⟨w.heap.size + 1, 1, none⟩) (by show w.heap.size + 1 < w.heap.size + 2; omega)).trans (by simp [hc1])
              have z2 : wB.cell? ⟨w.heap.size + 1, 2, none⟩ = some (.int .i64 0) := (hbZ.cell (p := ⟨w.heap.size + 1, 2, none⟩) (by show w.heap.size + 1 < w.heap.size + 2; omega)).trans (by simp [hc1])
              have z3 : wB.cell? ⟨w.heap.size + 1, 3, none⟩ = some (.int .i64 0) := (hbZ.cell (p := ⟨w.heap.size + 1, 3, none⟩) (by show w.heap.size + 1 < w.heap.size + 2; omega)).trans (by simp [hc1])
              have zf : ∀ o, wB.frozen? ⟨w.heap.size + 1, o, none⟩ = false := fun o => (hbZ.frozen (p := ⟨w.heap.size + 1, o, none⟩) (by show w.heap.size + 1 < w.heap.size + 2; omega)).trans (by simp [hf1])
              clear hbB2 hbZ hbA HA HB hgrA hgrB hdA hdB)
           | (refine step_app elInt rfl (.tmp 12) (.tmp 14) rfl (((own_empty w1.drew 1 _ (fun i => .int .i64 (x.A i))).alloc _).kept hgrA (by simp)) rfl ⟨ba, oa, none⟩ x.na ca rfl (ic_new (hcA.out.keep hbA)) (fun _ _ => rfl) (by unfold maxLen; omega) (by omega) ?_
              intro gB cB wB HB hgrB hdB
              have hbB := hbA.trans (below_of_grown hgrB (B := w1.heap.size) (by simp) hbA.size)
              have hbB2 := below_of_grown hgrB (B := w.heap.size + 2) (by (try simp) <;> omega) (by have := hbA.size; omega)
              have m0 : wB.cell? ⟨w.heap.size, 0, none⟩ = some (.slice (some ⟨ba, oa, none⟩) x.na ca) := (hbB2.cell (p := ⟨w.heap.size, 0, none⟩) (by show w.heap.size < w.heap.size + 2; omega)).trans (by go_keep)
              have m1 : wB.cell? ⟨w.heap.size, 1, none⟩ = some (.slice (some ⟨bb, ob, none⟩) x.nb cb) := (hbB2.cell (p := ⟨w.heap.size, 1, none⟩) (by show w.heap.size < w.heap.size + 2; omega)).trans (by go_keep)
              have m2 : wB.cell? ⟨w.heap.size, 2, none⟩ = some (.int .i64 x.run) := (hbB2.cell (p := ⟨w.heap.size, 2, none⟩) (by show w.heap.size < w.heap.size + 2; omega)).trans (by go_keep)
              have m3 : wB.cell? ⟨w.heap.size, 3, none⟩ = some (.int .i64 x.head) := (hbB2.cell (p := ⟨w.heap.size, 3, none⟩) (by show w.heap.size < w.heap.size + 2; omega)).trans (by go_keep)
              have hoA := HA.kept hgrB (by (try simp at hdA); simp; omega)
              have hlB : w1.heap.size ≤ gB := by have := hbA.size; (try simp at hdB); omega
              have hlA : w1.heap.size ≤ gA := by (try simp at hdA); omega
              have hne : gA ≠ gB := by have h5 := HA.lt; (try simp at hdA); (try simp at hdB); omega
              have hoB := HB
              have hbZ := hbB.mono (B' := w.heap.size + 2) (by omega)
              have z0 : wB.cell? ⟨w.heap.size + 1, 0, none⟩ = some (.slice none 0 0) := (hbZ.cell (p := ⟨w.heap.size + 1, 0, none⟩) (by show w.heap.size + 1 < w.heap.size + 2; omega)).trans (by simp [hc1])
              have z1 : wB.cell? ⟨w.heap.size + 1, 1, none⟩ = some (.slice none 0 0) := (hbZ.cell (p := ⟨w.heap.size + 1, 1, none⟩) (by show w.heap.size + 1 < w.heap.size + 2; omega)).trans (by simp [hc1])
              have z2 : wB.cell? ⟨w.heap.size + 1, 2, none⟩ = some (.int .i64 0) := (hbZ.cell (p := ⟨w.heap.size + 1, 2, none⟩) (by show w.heap.size + 1 < w.heap.size + 2; omega)).trans (by simp [hc1])
              have z3 : wB.cell? ⟨w.heap.size + 1, 3, none⟩ = some (.int .i64 0) := (hbZ.cell (p := ⟨w.heap.size + 1, 3, none⟩) (by show w.heap.size + 1 < w.heap.size + 2; omega)).trans (by simp [hc1])
              have zf : ∀ o, wB.frozen? ⟨w.heap.size + 1, o, none⟩ = false := fun o => (hbZ.frozen (p := ⟨w.heap.size + 1, o, none⟩) (by show w.heap.size + 1 < w.heap.size + 2; omega)).trans (by simp [hf1])
              clear hbB2 hbZ hbA HA HB hgrA hgrB hdA hdB))
  all_goals
    rw [Nat.zero_add] at hoA hoB
    have HB3 := Lib.hid (HB1.out.trans (hbB.mono (by omega)))
    have HO2 := Lib.hid hoA
    have HO3 := Lib.hid hoB
    have hl2 := hoA.lt
    have hl3 := hoB.lt
    clear hbB hoA hoB
    go_wp2_with fail
    refine bodyPost_ret (v := .tuple #[.agg #[.slice (some ⟨gA, 0, none⟩) x.nb cA, .slice (some ⟨gB, 0, none⟩) x.na cB, .int .i64 x.run, .int .i64 x.head], .bool true]) (by simp [results, Try.results32, go_sem, z0, z1, z2, z3]) rfl ⟨_, by rw [HS.out], ?_, ?_⟩
    · rw [HS.out, if_pos rfl]
      show SgI _ _ _ _ (⟨x.B, x.nb, x.A, x.na, x.run, x.head⟩ : Sg)
      refine ⟨_, _, rfl, .inl ⟨gA, cA, rfl, by omega, by simp [World.setCell]; omega, ?_⟩, .inl ⟨gB, cB, rfl, by omega, by simp [World.setCell]; omega, ?_⟩, fun k hk => by simp [Value.ownBlock] at hk ⊢; omega⟩
      · have h0 := HO2.out
        repeat (with_reducible first | exact h0 | refine Own.setOther ?_ (by dsimp only; omega) _)
      · have h0 := HO3.out
        repeat (with_reducible first | exact h0 | refine Own.setOther ?_ (by dsimp only; omega) _)
    · have h0 := (hbb _ _).trans (HB3.out.mono (by omega))
      repeat (with_reducible first | exact h0 | refine Below.setCell ?_ (by dsimp only; omega) _)

end Go.Proofs.Ytnhkijfibiffnaa
