/-
  Walks: moved ready times, SingleLater.
-/
import Derived.Test.YtnhkijfibiffnaaU
import Derived.Test.YtnhkijfibiffnaaF
namespace Go.Proofs.Ytnhkijfibiffnaa
open Go.RowKit

theorem l8Later_any (b off n c : Nat) (f : Nat → Int) (d : Int) (w : World) (hn : n ≤ 1000000) (hf : ∀ k, k < n → 0 ≤ f k ∧ f k ≤ 2000) (hd : -2000 ≤ d ∧ d ≤ 2000) (hc : IC w b off n f) :
    Calls Try.prog 74 #[.slice (some ⟨b, off, none⟩) n c, .int .i64 d] w fun e w' => ∃ g c', e = .returned (.slice (some ⟨g, 0, none⟩) n c') ∧ w.heap.size ≤ g ∧ Own w' g c' n 1 3 (fun i => .int .i64 (f i + d)) ∧ Below w.heap.size w w' := by
  have HD := Lib.hid hd
  obtain ⟨hd1, hd2⟩ := hd
  go_enter Try.func74, Try.ntmps74
  go_wp2
  go_loopw [5, 6] (fun v i wr => ∃ k g c1 : Nat, k ≤ n ∧ i = .int .i64 k ∧ v = .slice (some ⟨g, 0, none⟩) k c1 ∧ w.heap.size ≤ g ∧ Own wr g c1 k 1 3 (fun i => .int .i64 (f i + d)) ∧ Below w.heap.size w wr)
    (fun _ i _ => n - (intOf i).toNat)
  case atStart => exact ⟨0, _, _, Nat.zero_le _, rfl, rfl, Nat.le_refl _, own_empty w 1 _ _, (Below.refl _ _).alloc (Nat.le_refl _) _⟩
  case round =>
    obtain ⟨k, g, c1, hk, rfl, rfl, hg, ho, hb⟩ := hrel
    by_cases hlt : k < n
    · have hck := (hc.keep hb).at k hlt
      have hfk := hf k hlt
      have H1 := Lib.hid ho
      have HB := Lib.hid hb
      clear ho hb
      go_wp2_with (first
        | (at_builtin; refine wpList_pushI elInt rfl (.tmp 14) (.tmp 21) rfl H1.out rfl rfl rfl (by omega) ?_; intro g' c' wa HA hgr hd'))
      have z := HB.out.size
      go_roundw
      case rel => exact ⟨k + 1, g', c', by omega, by go_num, rfl, by omega, HA, HB.out.trans (below_of_grown hgr hg z)⟩
      case measure => simp [intOf]; omega
    · obtain rfl : k = n := by omega
      have H1 := Lib.hid ho
      have HB := Lib.hid hb
      clear ho hb
      go_wp2
      go_ret
      exact ⟨g, c1, rfl, hg, H1.out, HB.out⟩

theorem laterTimes_any (b off n c : Nat) (f : Nat → Int) (d : Int) (w : World) (hn : n ≤ 1000000) (hf : ∀ k, k < n → 0 ≤ f k ∧ f k ≤ 2000) (hd : -2000 ≤ d ∧ d ≤ 2000) (hc : IC w b off n f) :
    Calls Try.prog 73 #[.slice (some ⟨b, off, none⟩) n c, .int .i64 d] w fun e w' => ∃ g c', e = .returned (.slice (some ⟨g, 0, none⟩) n c') ∧ w.heap.size ≤ g ∧ Own w' g c' n 1 3 (fun i => .int .i64 (f i + d)) ∧ Below w.heap.size w w' := by
  have HD := Lib.hid hd
  obtain ⟨hd1, hd2⟩ := hd
  have hmk := fun w => run_mk0 elInt n (by omega) (by omega) w
  go_enter Try.func73, Try.ntmps73
  go_wp2
  go_loopw [5, 7, 13] (fun v _ i wr => ∃ k g c1 : Nat, k ≤ n ∧ i = .int .i64 k ∧ v = .slice (some ⟨g, 0, none⟩) k c1 ∧ w.heap.size ≤ g ∧ Own wr g c1 k 1 3 (fun i => .int .i64 (f i + d)) ∧ Below w.heap.size w wr)
    (fun _ _ i _ => n - (intOf i).toNat)
  case atStart => exact ⟨0, _, _, Nat.zero_le _, rfl, rfl, Nat.le_refl _, own_at _ _ _ _ _ (by unfold maxLen; omega) rfl, (Below.refl _ _).alloc (Nat.le_refl _) _⟩
  case round =>
    obtain ⟨k, g, c1, hk, rfl, rfl, hg, ho, hb⟩ := hrel
    by_cases hlt : k < n
    · have hck := (hc.keep hb).at k hlt
      have hfk := hf k hlt
      have H1 := Lib.hid ho
      have HB := Lib.hid hb
      clear ho hb
      go_wp2_with (first
        | (at_builtin; refine wpList_pushI elInt rfl (.tmp 17) (.tmp 21) rfl H1.out rfl rfl rfl (by omega) ?_; intro g' c' wa HA hgr hd'))
      have z := HB.out.size
      go_roundw
      case rel => exact ⟨k + 1, g', c', by omega, by go_num, rfl, by omega, HA, HB.out.trans (below_of_grown hgr hg z)⟩
      case measure => simp [intOf]; omega
    · obtain rfl : k = n := by omega
      have H1 := Lib.hid ho
      have HB := Lib.hid hb
      clear ho hb
      go_wp2
      go_ret
      exact ⟨g, c1, rfl, hg, H1.out, HB.out⟩

theorem box_free {w w' : World} {cs : Array Value} {t : TypeId} {B : Nat} (hb : Below B (w.alloc (.cells cs t)) w') (hB : w.heap.size < B) : ∀ o, w'.frozen? ⟨w.heap.size, o, none⟩ = false := fun o => by
  rw [hb.frozen (p := ⟨w.heap.size, o, none⟩) hB]
  have hh : (w.alloc (.cells cs t)).heap[w.heap.size]? = some (.cells cs t (0, 0)) := heap_alloc_new _ _
  unfold World.frozen?
  simp only [hh]
  simp

/-- the line with all its ready times moved -/
def movSg (x : Sg) (d : Int) : Sg := ⟨fun i => x.A i + d, x.na, fun i => x.B i + d, x.nb, x.run, x.head⟩
def latOk (x : Sg) (d : Int) : Bool := sgOk x && (inB d (-2000) 2000 && sgOk (movSg x d))

/-- what SingleLater hands back, with blocks -/
def SgResG (ok : Bool) (y : Sg) (w : World) (e : Ending) (w' : World) : Prop :=
  ∃ v, e = .returned (.tuple #[v, .bool ok]) ∧ (ok = true → SgF w.heap.size w' v y) ∧ (ok = false → v = .agg #[.slice none 0 0, .slice none 0 0, .int .i64 0, .int .i64 0]) ∧ Below w.heap.size w w'
theorem SgResG.res {ok : Bool} {y : Sg} {w : World} {e : Ending} {w' : World} (h : SgResG ok y w e w') : SgRes ok y w e w' := by
  obtain ⟨v, he, h1, h2, hb⟩ := h
  refine ⟨v, he, ?_, hb⟩
  cases ok
  · rw [h2 rfl, if_neg (by simp)]
    exact ⟨_, _, rfl, .inr ⟨rfl, rfl⟩, .inr ⟨rfl, rfl⟩, fun k hk => by simp [Value.ownBlock] at hk⟩
  · rw [if_pos rfl]; exact (h1 rfl).i

set_option maxHeartbeats 2000000 in
theorem specLaterG_any (v : Value) (x : Sg) (w : World) (d : Int) (hv : SgV w v x) (ha : x.na ≤ 1000000000000000) (hb : x.nb ≤ 1000000000000000) :
    Calls Try.prog 39 #[v, .int .i64 d] w (SgResG (latOk x d) (movSg x d) w) := by
  have hbb : ∀ a b, Below w.heap.size w ((w.alloc a).alloc b) := fun a b => ((Below.refl _ _).alloc (Nat.le_refl _) _).alloc (by simp) _
  have hv0 := hv
  obtain ⟨ba, oa, ca, bb, ob, cb, rfl, hca, hcb⟩ := hv
  have HCA := Lib.hid hca
  have HCB := Lib.hid hcb
  have HV := Lib.hid hv0
  clear hca hcb hv0
  go_enter Try.func39, Try.ntmps39
  go_wp2_with fail
  refine (specValid_any _ x _ (HV.out.keep (hbb _ _)) (by omega) (by omega)).mono ?_
  rintro e w1 ⟨rfl, hb1⟩
  have hz1 : w.heap.size + 2 ≤ w1.heap.size := by have := hb1.size; simpa using this
  have hb1' := hb1.mono (B' := w.heap.size + 2) (by simp)
  obtain ⟨hc1, hf1⟩ := bcellB hb1'
  have HB1 := Lib.hid hb1'
  clear hb1 hb1'
  cases hs : sgOk x
  · have HL : Hid (latOk x d = false) := by simp [latOk, hs, Hid]
    clear hs
    go_wp2_with fail
    refine bodyPost_ret (v := .tuple #[.agg #[.slice none 0 0, .slice none 0 0, .int .i64 0, .int .i64 0], .bool false]) (by simp [results, Try.results39, go_sem, hc1]) rfl ⟨_, by rw [HL.out], fun h => absurd (HL.out.symm.trans h) (by simp), fun _ => rfl, ?_⟩
    · have h0 := (hbb _ _).trans (HB1.out.mono (by omega))
      repeat (with_reducible first | exact h0 | refine Below.setCell ?_ (by dsimp only; omega) _)
  have hle := sgOk_le hs
  have hbd := sgOk_bd hs
  cases hi : inB d (-2000) 2000
  · have HL : Hid (latOk x d = false) := by simp [latOk, hi, Hid]
    clear hs
    have HI := Lib.hid hi
    clear hi
    go_wp2_with (go_at_call 63; refine (l6In_any _ _ _ _).mono ?_; rintro e w' ⟨rfl, rfl⟩; rw [HI.out])
    refine bodyPost_ret (v := .tuple #[.agg #[.slice none 0 0, .slice none 0 0, .int .i64 0, .int .i64 0], .bool false]) (by simp [results, Try.results39, go_sem, hc1]) rfl ⟨_, by rw [HL.out], fun h => absurd (HL.out.symm.trans h) (by simp), fun _ => rfl, ?_⟩
    · have h0 := (hbb _ _).trans (HB1.out.mono (by omega))
      repeat (with_reducible first | exact h0 | refine Below.setCell ?_ (by dsimp only; omega) _)
  have hd := inB_true.1 hi
  have HL : Hid (latOk x d = sgOk (movSg x d)) := by simp [latOk, hi, hs, Hid]
  have HI := Lib.hid hi
  clear hi hs
  go_wp2_with (go_at_call 63; refine (l6In_any _ _ _ _).mono ?_; rintro e w' ⟨rfl, rfl⟩; rw [HI.out])
  have hcA : Hid (IC w1 ba oa x.na x.A) := HCA.out.keep ((hbb _ _).trans (HB1.out.mono (by omega)))
  have hcB : Hid (IC w1 bb ob x.nb x.B) := HCB.out.keep ((hbb _ _).trans (HB1.out.mono (by omega)))
  have n1 : ¬ w1.heap.size = w.heap.size := by omega
  have n1' : ¬ w.heap.size = w1.heap.size := by omega
  have b1 : Hid (∀ a, Below w1.heap.size w1 (w1.drew.alloc a)) := fun a => (Below.refl _ w1).drew.alloc (Nat.le_refl _) a
  go_region_held3 (fun w' => w'.cell? ⟨w.heap.size, 0, none⟩ = some (.slice (some ⟨ba, oa, none⟩) x.na ca) ∧ w'.cell? ⟨w.heap.size, 1, none⟩ = some (.slice (some ⟨bb, ob, none⟩) x.nb cb) ∧
      w'.cell? ⟨w.heap.size, 2, none⟩ = some (.int .i64 x.run) ∧ w'.cell? ⟨w.heap.size, 3, none⟩ = some (.int .i64 x.head)) (go_keep)
    (first | (go_at_call_of 74 ba; refine (l8Later_any _ _ _ _ x.A d _ (by omega) hbd.A hd (hcA.out.keep (Below.refl _ w1).drew)).mono ?_; rintro e w2 ⟨g2, c2, rfl, hg2, ho2, hb2⟩
              have hb12 : Below w1.heap.size w1 w2 := (Below.refl _ w1).drew.trans (hb2.mono (by simp))
              have hg2' : w1.heap.size ≤ g2 := hg2
              have hz2 : w1.heap.size ≤ w2.heap.size := hb2.size
              have k0 : w2.cell? ⟨w.heap.size, 0, none⟩ = some (.slice (some ⟨ba, oa, none⟩) x.na ca) := (hb12.cell (p := ⟨w.heap.size, 0, none⟩) (by show w.heap.size < w1.heap.size; omega)).trans (by simp [hc1])
              have k1 : w2.cell? ⟨w.heap.size, 1, none⟩ = some (.slice (some ⟨bb, ob, none⟩) x.nb cb) := (hb12.cell (p := ⟨w.heap.size, 1, none⟩) (by show w.heap.size < w1.heap.size; omega)).trans (by simp [hc1])
              have k2 : w2.cell? ⟨w.heap.size, 2, none⟩ = some (.int .i64 x.run) := (hb12.cell (p := ⟨w.heap.size, 2, none⟩) (by show w.heap.size < w1.heap.size; omega)).trans (by simp [hc1])
              have k3 : w2.cell? ⟨w.heap.size, 3, none⟩ = some (.int .i64 x.head) := (hb12.cell (p := ⟨w.heap.size, 3, none⟩) (by show w.heap.size < w1.heap.size; omega)).trans (by simp [hc1])
              have n2 : ¬ w2.heap.size = w.heap.size := by omega
              have n2' : ¬ w.heap.size = w2.heap.size := by omega
              clear hb2 hg2)
           | (go_at_call_of 74 ba; refine (l8Later_any _ _ _ _ x.A d _ (by omega) hbd.A hd (hcA.out.keep (b1.out _))).mono ?_; rintro e w2 ⟨g2, c2, rfl, hg2, ho2, hb2⟩
              have hb12 : Below w1.heap.size w1 w2 := (b1.out _).trans (hb2.mono (by simp))
              have hg2' : w1.heap.size + 1 ≤ g2 := by simpa using hg2
              have hz2 : w1.heap.size + 1 ≤ w2.heap.size := by have := hb2.size; simpa using this
              have k0 : w2.cell? ⟨w.heap.size, 0, none⟩ = some (.slice (some ⟨ba, oa, none⟩) x.na ca) := (hb12.cell (p := ⟨w.heap.size, 0, none⟩) (by show w.heap.size < w1.heap.size; omega)).trans (by simp [hc1])
              have k1 : w2.cell? ⟨w.heap.size, 1, none⟩ = some (.slice (some ⟨bb, ob, none⟩) x.nb cb) := (hb12.cell (p := ⟨w.heap.size, 1, none⟩) (by show w.heap.size < w1.heap.size; omega)).trans (by simp [hc1])
              have k2 : w2.cell? ⟨w.heap.size, 2, none⟩ = some (.int .i64 x.run) := (hb12.cell (p := ⟨w.heap.size, 2, none⟩) (by show w.heap.size < w1.heap.size; omega)).trans (by simp [hc1])
              have k3 : w2.cell? ⟨w.heap.size, 3, none⟩ = some (.int .i64 x.head) := (hb12.cell (p := ⟨w.heap.size, 3, none⟩) (by show w.heap.size < w1.heap.size; omega)).trans (by simp [hc1])
              have bx : ∀ o, w2.cell? ⟨w1.heap.size, o, none⟩ = (#[.slice none 0 0, .slice none 0 0, .int .i64 0, .int .i64 0] : Array Value)[o]? := box_cells (w := w1.drew) (B := w1.heap.size + 1) (hb2.mono (by simp)) (by show w1.heap.size < _; omega)
              have bf : ∀ o, w2.frozen? ⟨w1.heap.size, o, none⟩ = false := box_free (w := w1.drew) (B := w1.heap.size + 1) (hb2.mono (by simp)) (by show w1.heap.size < _; omega)
              have n2 : ¬ w2.heap.size = w.heap.size := by omega
              have n2' : ¬ w.heap.size = w2.heap.size := by omega
              clear hb2 hg2)
           | (go_at_call_of 74 bb; refine (l8Later_any _ _ _ _ x.B d _ (by omega) hbd.B hd ((hcB.out.keep hb12))).mono ?_; rintro e w3 ⟨g3, c3, rfl, hg3, ho3, hb3⟩
              have hb13 : Below w1.heap.size w1 w3 := hb12.trans (hb3.mono (by omega))
              have hz3 : w2.heap.size ≤ w3.heap.size := hb3.size
              have m0 : w3.cell? ⟨w.heap.size, 0, none⟩ = some (.slice (some ⟨ba, oa, none⟩) x.na ca) := (hb13.cell (p := ⟨w.heap.size, 0, none⟩) (by show w.heap.size < w1.heap.size; omega)).trans (by simp [hc1])
              have m1 : w3.cell? ⟨w.heap.size, 1, none⟩ = some (.slice (some ⟨bb, ob, none⟩) x.nb cb) := (hb13.cell (p := ⟨w.heap.size, 1, none⟩) (by show w.heap.size < w1.heap.size; omega)).trans (by simp [hc1])
              have m2 : w3.cell? ⟨w.heap.size, 2, none⟩ = some (.int .i64 x.run) := (hb13.cell (p := ⟨w.heap.size, 2, none⟩) (by show w.heap.size < w1.heap.size; omega)).trans (by simp [hc1])
              have m3 : w3.cell? ⟨w.heap.size, 3, none⟩ = some (.int .i64 x.head) := (hb13.cell (p := ⟨w.heap.size, 3, none⟩) (by show w.heap.size < w1.heap.size; omega)).trans (by simp [hc1])
              have z0 : w3.cell? ⟨w.heap.size + 1, 0, none⟩ = some (.slice none 0 0) := (hb13.cell (p := ⟨w.heap.size + 1, 0, none⟩) (by show w.heap.size + 1 < w1.heap.size; omega)).trans (by simp [hc1])
              have z1 : w3.cell? ⟨w.heap.size + 1, 1, none⟩ = some (.slice none 0 0) := (hb13.cell (p := ⟨w.heap.size + 1, 1, none⟩) (by show w.heap.size + 1 < w1.heap.size; omega)).trans (by simp [hc1])
              have z2 : w3.cell? ⟨w.heap.size + 1, 2, none⟩ = some (.int .i64 0) := (hb13.cell (p := ⟨w.heap.size + 1, 2, none⟩) (by show w.heap.size + 1 < w1.heap.size; omega)).trans (by simp [hc1])
              have z3 : w3.cell? ⟨w.heap.size + 1, 3, none⟩ = some (.int .i64 0) := (hb13.cell (p := ⟨w.heap.size + 1, 3, none⟩) (by show w.heap.size + 1 < w1.heap.size; omega)).trans (by simp [hc1])
              have zf : ∀ o, w3.frozen? ⟨w.heap.size + 1, o, none⟩ = false := fun o => (hb13.frozen (p := ⟨w.heap.size + 1, o, none⟩) (by show w.heap.size + 1 < w1.heap.size; omega)).trans (by simp [hf1])
              have hl2 := ho2.lt
              have hne : g2 ≠ g3 := by omega
              have ho2' := ho2.below hb3 ho2.lt
              try have bx' : ∀ o, w3.cell? ⟨w1.heap.size, o, none⟩ = (#[.slice none 0 0, .slice none 0 0, .int .i64 0, .int .i64 0] : Array Value)[o]? := box_keep bx hb3 (by omega)
              try have bf' : ∀ o, w3.frozen? ⟨w1.heap.size, o, none⟩ = false := fun o => (hb3.frozen (p := ⟨w1.heap.size, o, none⟩) (by show w1.heap.size < w2.heap.size; omega)).trans (bf o)
              clear ho2 hb3)
           | (go_at_call_of 74 bb; refine (l8Later_any _ _ _ _ x.B d _ (by omega) hbd.B hd (hcB.out.keep (hb12.alloc hz2 _))).mono ?_; rintro e w3 ⟨g3, c3, rfl, hg3, ho3, hb3⟩
              have hb13 : Below w1.heap.size w1 w3 := (hb12.alloc hz2 _).trans (hb3.mono (by simp; omega))
              have hz3 : w2.heap.size + 1 ≤ w3.heap.size := by have := hb3.size; simpa using this
              have hg3' : w2.heap.size + 1 ≤ g3 := by simpa using hg3
              have m0 : w3.cell? ⟨w.heap.size, 0, none⟩ = some (.slice (some ⟨ba, oa, none⟩) x.na ca) := (hb13.cell (p := ⟨w.heap.size, 0, none⟩) (by show w.heap.size < w1.heap.size; omega)).trans (by simp [hc1])
              have m1 : w3.cell? ⟨w.heap.size, 1, none⟩ = some (.slice (some ⟨bb, ob, none⟩) x.nb cb) := (hb13.cell (p := ⟨w.heap.size, 1, none⟩) (by show w.heap.size < w1.heap.size; omega)).trans (by simp [hc1])
              have m2 : w3.cell? ⟨w.heap.size, 2, none⟩ = some (.int .i64 x.run) := (hb13.cell (p := ⟨w.heap.size, 2, none⟩) (by show w.heap.size < w1.heap.size; omega)).trans (by simp [hc1])
              have m3 : w3.cell? ⟨w.heap.size, 3, none⟩ = some (.int .i64 x.head) := (hb13.cell (p := ⟨w.heap.size, 3, none⟩) (by show w.heap.size < w1.heap.size; omega)).trans (by simp [hc1])
              have z0 : w3.cell? ⟨w.heap.size + 1, 0, none⟩ = some (.slice none 0 0) := (hb13.cell (p := ⟨w.heap.size + 1, 0, none⟩) (by show w.heap.size + 1 < w1.heap.size; omega)).trans (by simp [hc1])
              have z1 : w3.cell? ⟨w.heap.size + 1, 1, none⟩ = some (.slice none 0 0) := (hb13.cell (p := ⟨w.heap.size + 1, 1, none⟩) (by show w.heap.size + 1 < w1.heap.size; omega)).trans (by simp [hc1])
              have z2 : w3.cell? ⟨w.heap.size + 1, 2, none⟩ = some (.int .i64 0) := (hb13.cell (p := ⟨w.heap.size + 1, 2, none⟩) (by show w.heap.size + 1 < w1.heap.size; omega)).trans (by simp [hc1])
              have z3 : w3.cell? ⟨w.heap.size + 1, 3, none⟩ = some (.int .i64 0) := (hb13.cell (p := ⟨w.heap.size + 1, 3, none⟩) (by show w.heap.size + 1 < w1.heap.size; omega)).trans (by simp [hc1])
              have zf : ∀ o, w3.frozen? ⟨w.heap.size + 1, o, none⟩ = false := fun o => (hb13.frozen (p := ⟨w.heap.size + 1, o, none⟩) (by show w.heap.size + 1 < w1.heap.size; omega)).trans (by simp [hf1])
              have hl2 := ho2.lt
              have hne : g2 ≠ g3 := by omega
              have ho2' := (ho2.alloc _).below hb3 (ho2.alloc _).lt
              have bx := box_cells (w := w2) (B := w2.heap.size + 1) (hb3.mono (by simp)) (by omega)
              have bf := box_free (w := w2) (B := w2.heap.size + 1) (hb3.mono (by simp)) (by omega)
              clear ho2 hb3 hg3))
  · go_wp2_with fail
    refine Calls.mono (specValid_any _ (movSg x d) _ ?hv (by show x.na ≤ _; omega) (by show x.nb ≤ _; omega)) ?_
    case hv =>
      refine ⟨g2, 0, c2, g3, 0, c3, rfl, IC.of_own (cap := c2) (t := 3) (f := fun i => x.A i + d) ?_, IC.of_own (cap := c3) (t := 3) (f := fun i => x.B i + d) ?_⟩
      · show Own _ g2 c2 x.na 1 _ _
        repeat (with_reducible first | exact ho2' | refine Own.setOther ?_ (by dsimp only; omega) _ | refine Own.alloc ?_ _)
      · show Own _ g3 c3 x.nb 1 _ _
        repeat (with_reducible first | exact ho3 | refine Own.setOther ?_ (by dsimp only; omega) _ | refine Own.alloc ?_ _)
    rintro e w4 ⟨rfl, hb4⟩
    have hz4 : w3.heap.size + 1 ≤ w4.heap.size := by have := hb4.size; first | (simpa using this) | (simpa [World.setCell] using this)
    have hWb := hb4.mono (B' := w1.heap.size) (by first | (simp; omega) | (simp [World.setCell]; omega))
    have HB4 : Hid (Below w1.heap.size w1 w4) := by
      refine Below.trans ?_ hWb
      repeat (with_reducible first | exact hb13 | refine Below.setCell ?_ (by dsimp only; omega) _ | refine Below.alloc ?_ (by omega) _)
    have hb4' := hb4.mono (B' := w3.heap.size + 1) (by first | (simp; done) | (simp [World.setCell]; done))
    obtain ⟨hc4, hf4⟩ := bcellB hb4'
    have z0 : w4.cell? ⟨w.heap.size + 1, 0, none⟩ = some (.slice none 0 0) := (HB4.out.cell (p := ⟨w.heap.size + 1, 0, none⟩) (by show w.heap.size + 1 < w1.heap.size; omega)).trans (by simp [hc1])
    have z1 : w4.cell? ⟨w.heap.size + 1, 1, none⟩ = some (.slice none 0 0) := (HB4.out.cell (p := ⟨w.heap.size + 1, 1, none⟩) (by show w.heap.size + 1 < w1.heap.size; omega)).trans (by simp [hc1])
    have z2 : w4.cell? ⟨w.heap.size + 1, 2, none⟩ = some (.int .i64 0) := (HB4.out.cell (p := ⟨w.heap.size + 1, 2, none⟩) (by show w.heap.size + 1 < w1.heap.size; omega)).trans (by simp [hc1])
    have z3 : w4.cell? ⟨w.heap.size + 1, 3, none⟩ = some (.int .i64 0) := (HB4.out.cell (p := ⟨w.heap.size + 1, 3, none⟩) (by show w.heap.size + 1 < w1.heap.size; omega)).trans (by simp [hc1])
    have zf : ∀ o, w4.frozen? ⟨w.heap.size + 1, o, none⟩ = false := fun o => (HB4.out.frozen (p := ⟨w.heap.size + 1, o, none⟩) (by show w.heap.size + 1 < w1.heap.size; omega)).trans (by simp [hf1])
    have t0 : w4.cell? ⟨w3.heap.size, 0, none⟩ = some (.slice (some ⟨g2, 0, none⟩) x.na c2) := (hc4 _ _ (by omega)).trans (by simp)
    have t1 : w4.cell? ⟨w3.heap.size, 1, none⟩ = some (.slice (some ⟨g3, 0, none⟩) x.nb c3) := (hc4 _ _ (by omega)).trans (by simp)
    have t2 : w4.cell? ⟨w3.heap.size, 2, none⟩ = some (.int .i64 x.run) := (hc4 _ _ (by omega)).trans (by simp)
    have t3 : w4.cell? ⟨w3.heap.size, 3, none⟩ = some (.int .i64 x.head) := (hc4 _ _ (by omega)).trans (by simp)
    clear hc4 hf4
    have HO2 : Hid (Own w4 g2 c2 x.na 1 3 (fun i => .int .i64 (x.A i + d))) := by
      refine Own.below ?_ hb4' (by omega)
      repeat (with_reducible first | exact ho2' | refine Own.setOther ?_ (by dsimp only; omega) _ | refine Own.alloc ?_ _)
    have hl3 := ho3.lt
    have HO3 : Hid (Own w4 g3 c3 x.nb 1 3 (fun i => .int .i64 (x.B i + d))) := by
      refine Own.below ?_ hb4' (by omega)
      repeat (with_reducible first | exact ho3 | refine Own.setOther ?_ (by dsimp only; omega) _ | refine Own.alloc ?_ _)
    have HB5 := Lib.hid (HB1.out.trans (HB4.out.mono (by omega)))
    clear hb4 hb4' hWb ho2' ho3 hb13 hb12
    cases hm : sgOk (movSg x d)
    · have HL' : Hid (latOk x d = false) := HL.out.trans hm
      clear hm
      go_wp2_with fail
      refine bodyPost_ret (v := .tuple #[.agg #[.slice none 0 0, .slice none 0 0, .int .i64 0, .int .i64 0], .bool false]) (by simp [results, Try.results39, go_sem, z0, z1, z2, z3]) rfl ⟨_, by rw [HL'.out], fun h => absurd (HL'.out.symm.trans h) (by simp), fun _ => rfl, ?_⟩
      · have h0 := (hbb _ _).trans (HB5.out.mono (by omega))
        repeat (with_reducible first | exact h0 | refine Below.setCell ?_ (by dsimp only; omega) _)
    · have HL' : Hid (latOk x d = true) := HL.out.trans hm
      clear hm
      go_wp2_with fail
      refine bodyPost_ret (v := .tuple #[.agg #[.slice (some ⟨g2, 0, none⟩) x.na c2, .slice (some ⟨g3, 0, none⟩) x.nb c3, .int .i64 x.run, .int .i64 x.head], .bool true]) (by simp [results, Try.results39, go_sem, z0, z1, z2, z3]) rfl ⟨_, by rw [HL'.out], ?_, fun h => absurd (HL'.out.symm.trans h) (by simp), ?_⟩
      · intro _
        show SgF _ _ _ (⟨fun i => x.A i + d, x.na, fun i => x.B i + d, x.nb, x.run, x.head⟩ : Sg)
        refine ⟨g2, c2, g3, c3, rfl, by omega, by omega, by omega, ?_, ?_⟩
        · have h0 := HO2.out
          repeat (with_reducible first | exact h0 | refine Own.setOther ?_ (by dsimp only; omega) _)
        · have h0 := HO3.out
          repeat (with_reducible first | exact h0 | refine Own.setOther ?_ (by dsimp only; omega) _)
      · have h0 := (hbb _ _).trans (HB5.out.mono (by omega))
        repeat (with_reducible first | exact h0 | refine Below.setCell ?_ (by dsimp only; omega) _)
  · go_wp2_with fail
    refine Calls.mono (specValid_any _ (movSg x d) _ ?hv (by show x.na ≤ _; omega) (by show x.nb ≤ _; omega)) ?_
    case hv =>
      refine ⟨g2, 0, c2, g3, 0, c3, rfl, IC.of_own (cap := c2) (t := 3) (f := fun i => x.A i + d) ?_, IC.of_own (cap := c3) (t := 3) (f := fun i => x.B i + d) ?_⟩
      · show Own _ g2 c2 x.na 1 _ _
        repeat (with_reducible first | exact ho2' | refine Own.setOther ?_ (by dsimp only; omega) _ | refine Own.alloc ?_ _)
      · show Own _ g3 c3 x.nb 1 _ _
        repeat (with_reducible first | exact ho3 | refine Own.setOther ?_ (by dsimp only; omega) _ | refine Own.alloc ?_ _)
    rintro e w4 ⟨rfl, hb4⟩
    have hz4 : w3.heap.size ≤ w4.heap.size := by have := hb4.size; first | (simpa using this) | (simpa [World.setCell] using this)
    have hWb := hb4.mono (B' := w1.heap.size) (by first | (simp; omega) | (simp [World.setCell]; omega))
    have HB4 : Hid (Below w1.heap.size w1 w4) := by
      refine Below.trans ?_ hWb
      repeat (with_reducible first | exact hb13 | refine Below.setCell ?_ (by dsimp only; omega) _ | refine Below.alloc ?_ (by omega) _)
    have hb4' := hb4.mono (B' := w3.heap.size) (by first | (simp; done) | (simp [World.setCell]; done))
    obtain ⟨hc4, hf4⟩ := bcellB hb4'
    have z0 : w4.cell? ⟨w.heap.size + 1, 0, none⟩ = some (.slice none 0 0) := (HB4.out.cell (p := ⟨w.heap.size + 1, 0, none⟩) (by show w.heap.size + 1 < w1.heap.size; omega)).trans (by simp [hc1])
    have z1 : w4.cell? ⟨w.heap.size + 1, 1, none⟩ = some (.slice none 0 0) := (HB4.out.cell (p := ⟨w.heap.size + 1, 1, none⟩) (by show w.heap.size + 1 < w1.heap.size; omega)).trans (by simp [hc1])
    have z2 : w4.cell? ⟨w.heap.size + 1, 2, none⟩ = some (.int .i64 0) := (HB4.out.cell (p := ⟨w.heap.size + 1, 2, none⟩) (by show w.heap.size + 1 < w1.heap.size; omega)).trans (by simp [hc1])
    have z3 : w4.cell? ⟨w.heap.size + 1, 3, none⟩ = some (.int .i64 0) := (HB4.out.cell (p := ⟨w.heap.size + 1, 3, none⟩) (by show w.heap.size + 1 < w1.heap.size; omega)).trans (by simp [hc1])
    have zf : ∀ o, w4.frozen? ⟨w.heap.size + 1, o, none⟩ = false := fun o => (HB4.out.frozen (p := ⟨w.heap.size + 1, o, none⟩) (by show w.heap.size + 1 < w1.heap.size; omega)).trans (by simp [hf1])
    have t0 : w4.cell? ⟨w2.heap.size, 0, none⟩ = some (.slice (some ⟨g2, 0, none⟩) x.na c2) := (hc4 _ _ (by omega)).trans (by simp [go_sem, bx])
    have t1 : w4.cell? ⟨w2.heap.size, 1, none⟩ = some (.slice (some ⟨g3, 0, none⟩) x.nb c3) := (hc4 _ _ (by omega)).trans (by simp [go_sem, bx])
    have t2 : w4.cell? ⟨w2.heap.size, 2, none⟩ = some (.int .i64 x.run) := (hc4 _ _ (by omega)).trans (by simp [go_sem, bx])
    have t3 : w4.cell? ⟨w2.heap.size, 3, none⟩ = some (.int .i64 x.head) := (hc4 _ _ (by omega)).trans (by simp [go_sem, bx])
    clear hc4 hf4
    have HO2 : Hid (Own w4 g2 c2 x.na 1 3 (fun i => .int .i64 (x.A i + d))) := by
      refine Own.below ?_ hb4' (by omega)
      repeat (with_reducible first | exact ho2' | refine Own.setOther ?_ (by dsimp only; omega) _ | refine Own.alloc ?_ _)
    have hl3 := ho3.lt
    have HO3 : Hid (Own w4 g3 c3 x.nb 1 3 (fun i => .int .i64 (x.B i + d))) := by
      refine Own.below ?_ hb4' (by omega)
      repeat (with_reducible first | exact ho3 | refine Own.setOther ?_ (by dsimp only; omega) _ | refine Own.alloc ?_ _)
    have HB5 := Lib.hid (HB1.out.trans (HB4.out.mono (by omega)))
    clear hb4 hb4' hWb ho2' ho3 hb13 hb12
    cases hm : sgOk (movSg x d)
    · have HL' : Hid (latOk x d = false) := HL.out.trans hm
      clear hm
      go_wp2_with fail
      refine bodyPost_ret (v := .tuple #[.agg #[.slice none 0 0, .slice none 0 0, .int .i64 0, .int .i64 0], .bool false]) (by simp [results, Try.results39, go_sem, z0, z1, z2, z3]) rfl ⟨_, by rw [HL'.out], fun h => absurd (HL'.out.symm.trans h) (by simp), fun _ => rfl, ?_⟩
      · have h0 := (hbb _ _).trans (HB5.out.mono (by omega))
        repeat (with_reducible first | exact h0 | refine Below.setCell ?_ (by dsimp only; omega) _)
    · have HL' : Hid (latOk x d = true) := HL.out.trans hm
      clear hm
      go_wp2_with fail
      refine bodyPost_ret (v := .tuple #[.agg #[.slice (some ⟨g2, 0, none⟩) x.na c2, .slice (some ⟨g3, 0, none⟩) x.nb c3, .int .i64 x.run, .int .i64 x.head], .bool true]) (by simp [results, Try.results39, go_sem, z0, z1, z2, z3]) rfl ⟨_, by rw [HL'.out], ?_, fun h => absurd (HL'.out.symm.trans h) (by simp), ?_⟩
      · intro _
        show SgF _ _ _ (⟨fun i => x.A i + d, x.na, fun i => x.B i + d, x.nb, x.run, x.head⟩ : Sg)
        refine ⟨g2, c2, g3, c3, rfl, by omega, by omega, by omega, ?_, ?_⟩
        · have h0 := HO2.out
          repeat (with_reducible first | exact h0 | refine Own.setOther ?_ (by dsimp only; omega) _)
        · have h0 := HO3.out
          repeat (with_reducible first | exact h0 | refine Own.setOther ?_ (by dsimp only; omega) _)
      · have h0 := (hbb _ _).trans (HB5.out.mono (by omega))
        repeat (with_reducible first | exact h0 | refine Below.setCell ?_ (by dsimp only; omega) _)
  · go_wp2_with fail
    refine Calls.mono (specValid_any _ (movSg x d) _ ?hv (by show x.na ≤ _; omega) (by show x.nb ≤ _; omega)) ?_
    case hv =>
      refine ⟨g2, 0, c2, g3, 0, c3, rfl, IC.of_own (cap := c2) (t := 3) (f := fun i => x.A i + d) ?_, IC.of_own (cap := c3) (t := 3) (f := fun i => x.B i + d) ?_⟩
      · show Own _ g2 c2 x.na 1 _ _
        repeat (with_reducible first | exact ho2' | refine Own.setOther ?_ (by dsimp only; omega) _ | refine Own.alloc ?_ _)
      · show Own _ g3 c3 x.nb 1 _ _
        repeat (with_reducible first | exact ho3 | refine Own.setOther ?_ (by dsimp only; omega) _ | refine Own.alloc ?_ _)
    rintro e w4 ⟨rfl, hb4⟩
    have hz4 : w3.heap.size ≤ w4.heap.size := by have := hb4.size; first | (simpa using this) | (simpa [World.setCell] using this)
    have hWb := hb4.mono (B' := w1.heap.size) (by first | (simp; omega) | (simp [World.setCell]; omega))
    have HB4 : Hid (Below w1.heap.size w1 w4) := by
      refine Below.trans ?_ hWb
      repeat (with_reducible first | exact hb13 | refine Below.setCell ?_ (by dsimp only; omega) _ | refine Below.alloc ?_ (by omega) _)
    have hb4' := hb4.mono (B' := w3.heap.size) (by first | (simp; done) | (simp [World.setCell]; done))
    obtain ⟨hc4, hf4⟩ := bcellB hb4'
    have z0 : w4.cell? ⟨w.heap.size + 1, 0, none⟩ = some (.slice none 0 0) := (HB4.out.cell (p := ⟨w.heap.size + 1, 0, none⟩) (by show w.heap.size + 1 < w1.heap.size; omega)).trans (by simp [hc1])
    have z1 : w4.cell? ⟨w.heap.size + 1, 1, none⟩ = some (.slice none 0 0) := (HB4.out.cell (p := ⟨w.heap.size + 1, 1, none⟩) (by show w.heap.size + 1 < w1.heap.size; omega)).trans (by simp [hc1])
    have z2 : w4.cell? ⟨w.heap.size + 1, 2, none⟩ = some (.int .i64 0) := (HB4.out.cell (p := ⟨w.heap.size + 1, 2, none⟩) (by show w.heap.size + 1 < w1.heap.size; omega)).trans (by simp [hc1])
    have z3 : w4.cell? ⟨w.heap.size + 1, 3, none⟩ = some (.int .i64 0) := (HB4.out.cell (p := ⟨w.heap.size + 1, 3, none⟩) (by show w.heap.size + 1 < w1.heap.size; omega)).trans (by simp [hc1])
    have zf : ∀ o, w4.frozen? ⟨w.heap.size + 1, o, none⟩ = false := fun o => (HB4.out.frozen (p := ⟨w.heap.size + 1, o, none⟩) (by show w.heap.size + 1 < w1.heap.size; omega)).trans (by simp [hf1])
    have t0 : w4.cell? ⟨w1.heap.size, 0, none⟩ = some (.slice (some ⟨g2, 0, none⟩) x.na c2) := (hc4 _ _ (by omega)).trans (by simp [go_sem, bx'])
    have t1 : w4.cell? ⟨w1.heap.size, 1, none⟩ = some (.slice (some ⟨g3, 0, none⟩) x.nb c3) := (hc4 _ _ (by omega)).trans (by simp [go_sem, bx'])
    have t2 : w4.cell? ⟨w1.heap.size, 2, none⟩ = some (.int .i64 x.run) := (hc4 _ _ (by omega)).trans (by simp [go_sem, bx'])
    have t3 : w4.cell? ⟨w1.heap.size, 3, none⟩ = some (.int .i64 x.head) := (hc4 _ _ (by omega)).trans (by simp [go_sem, bx'])
    clear hc4 hf4
    have HO2 : Hid (Own w4 g2 c2 x.na 1 3 (fun i => .int .i64 (x.A i + d))) := by
      refine Own.below ?_ hb4' (by omega)
      repeat (with_reducible first | exact ho2' | refine Own.setOther ?_ (by dsimp only; omega) _ | refine Own.alloc ?_ _)
    have hl3 := ho3.lt
    have HO3 : Hid (Own w4 g3 c3 x.nb 1 3 (fun i => .int .i64 (x.B i + d))) := by
      refine Own.below ?_ hb4' (by omega)
      repeat (with_reducible first | exact ho3 | refine Own.setOther ?_ (by dsimp only; omega) _ | refine Own.alloc ?_ _)
    have HB5 := Lib.hid (HB1.out.trans (HB4.out.mono (by omega)))
    clear hb4 hb4' hWb ho2' ho3 hb13 hb12
    cases hm : sgOk (movSg x d)
    · have HL' : Hid (latOk x d = false) := HL.out.trans hm
      clear hm
      go_wp2_with fail
      refine bodyPost_ret (v := .tuple #[.agg #[.slice none 0 0, .slice none 0 0, .int .i64 0, .int .i64 0], .bool false]) (by simp [results, Try.results39, go_sem, z0, z1, z2, z3]) rfl ⟨_, by rw [HL'.out], fun h => absurd (HL'.out.symm.trans h) (by simp), fun _ => rfl, ?_⟩
      · have h0 := (hbb _ _).trans (HB5.out.mono (by omega))
        repeat (with_reducible first | exact h0 | refine Below.setCell ?_ (by dsimp only; omega) _)
    · have HL' : Hid (latOk x d = true) := HL.out.trans hm
      clear hm
      go_wp2_with fail
      refine bodyPost_ret (v := .tuple #[.agg #[.slice (some ⟨g2, 0, none⟩) x.na c2, .slice (some ⟨g3, 0, none⟩) x.nb c3, .int .i64 x.run, .int .i64 x.head], .bool true]) (by simp [results, Try.results39, go_sem, z0, z1, z2, z3]) rfl ⟨_, by rw [HL'.out], ?_, fun h => absurd (HL'.out.symm.trans h) (by simp), ?_⟩
      · intro _
        show SgF _ _ _ (⟨fun i => x.A i + d, x.na, fun i => x.B i + d, x.nb, x.run, x.head⟩ : Sg)
        refine ⟨g2, c2, g3, c3, rfl, by omega, by omega, by omega, ?_, ?_⟩
        · have h0 := HO2.out
          repeat (with_reducible first | exact h0 | refine Own.setOther ?_ (by dsimp only; omega) _)
        · have h0 := HO3.out
          repeat (with_reducible first | exact h0 | refine Own.setOther ?_ (by dsimp only; omega) _)
      · have h0 := (hbb _ _).trans (HB5.out.mono (by omega))
        repeat (with_reducible first | exact h0 | refine Below.setCell ?_ (by dsimp only; omega) _)
set_option maxHeartbeats 2000000 in
theorem implLaterG_any (v : Value) (x : Sg) (w : World) (d : Int) (hv : SgV w v x) (ha : x.na ≤ 1000000000000000) (hb : x.nb ≤ 1000000000000000) :
    Calls Try.prog 38 #[v, .int .i64 d] w (SgResG (latOk x d) (movSg x d) w) := by
  have hbb : ∀ a b, Below w.heap.size w ((w.alloc a).alloc b) := fun a b => ((Below.refl _ _).alloc (Nat.le_refl _) _).alloc (by simp) _
  have hv0 := hv
  obtain ⟨ba, oa, ca, bb, ob, cb, rfl, hca, hcb⟩ := hv
  have HCA := Lib.hid hca
  have HCB := Lib.hid hcb
  have HV := Lib.hid hv0
  clear hca hcb hv0
  go_enter Try.func38, Try.ntmps38
  go_wp2_with fail
  refine (implValid_any _ x _ (HV.out.keep (hbb _ _)) (by omega) (by omega)).mono ?_
  rintro e w1 ⟨rfl, hb1⟩
  have hz1 : w.heap.size + 2 ≤ w1.heap.size := by have := hb1.size; simpa using this
  have hb1' := hb1.mono (B' := w.heap.size + 2) (by simp)
  obtain ⟨hc1, hf1⟩ := bcellB hb1'
  have HB1 := Lib.hid hb1'
  clear hb1 hb1'
  cases hs : sgOk x
  · have HL : Hid (latOk x d = false) := by simp [latOk, hs, Hid]
    clear hs
    go_wp2_with fail
    refine bodyPost_ret (v := .tuple #[.agg #[.slice none 0 0, .slice none 0 0, .int .i64 0, .int .i64 0], .bool false]) (by simp [results, Try.results38, go_sem, hc1]) rfl ⟨_, by rw [HL.out], fun h => absurd (HL.out.symm.trans h) (by simp), fun _ => rfl, ?_⟩
    · have h0 := (hbb _ _).trans (HB1.out.mono (by omega))
      repeat (with_reducible first | exact h0 | refine Below.setCell ?_ (by dsimp only; omega) _)
  have hle := sgOk_le hs
  have hbd := sgOk_bd hs
  by_cases hd : -2000 ≤ d ∧ d ≤ 2000
  · have HL : Hid (latOk x d = sgOk (movSg x d)) := by simp [latOk, inB_true.2 hd, hs, Hid]
    clear hs
    obtain ⟨hd1, hd2⟩ := id hd
    go_wp2_with fail
    have hcA : Hid (IC w1 ba oa x.na x.A) := HCA.out.keep ((hbb _ _).trans (HB1.out.mono (by omega)))
    have hcB : Hid (IC w1 bb ob x.nb x.B) := HCB.out.keep ((hbb _ _).trans (HB1.out.mono (by omega)))
    have n1 : ¬ w1.heap.size = w.heap.size := by omega
    have n1' : ¬ w.heap.size = w1.heap.size := by omega
    have b1 : Hid (∀ a, Below w1.heap.size w1 (w1.drew.alloc a)) := fun a => (Below.refl _ w1).drew.alloc (Nat.le_refl _) a
    go_region_held3 (fun w' => w'.cell? ⟨w.heap.size, 0, none⟩ = some (.slice (some ⟨ba, oa, none⟩) x.na ca) ∧ w'.cell? ⟨w.heap.size, 1, none⟩ = some (.slice (some ⟨bb, ob, none⟩) x.nb cb) ∧
        w'.cell? ⟨w.heap.size, 2, none⟩ = some (.int .i64 x.run) ∧ w'.cell? ⟨w.heap.size, 3, none⟩ = some (.int .i64 x.head)) (go_keep)
      (first | (go_at_call_of 73 ba; refine (laterTimes_any _ _ _ _ x.A d _ (by omega) hbd.A hd (hcA.out.keep (Below.refl _ w1).drew)).mono ?_; rintro e w2 ⟨g2, c2, rfl, hg2, ho2, hb2⟩
                have hb12 : Below w1.heap.size w1 w2 := (Below.refl _ w1).drew.trans (hb2.mono (by simp))
                have hg2' : w1.heap.size ≤ g2 := hg2
                have hz2 : w1.heap.size ≤ w2.heap.size := hb2.size
                have k0 : w2.cell? ⟨w.heap.size, 0, none⟩ = some (.slice (some ⟨ba, oa, none⟩) x.na ca) := (hb12.cell (p := ⟨w.heap.size, 0, none⟩) (by show w.heap.size < w1.heap.size; omega)).trans (by simp [hc1])
                have k1 : w2.cell? ⟨w.heap.size, 1, none⟩ = some (.slice (some ⟨bb, ob, none⟩) x.nb cb) := (hb12.cell (p := ⟨w.heap.size, 1, none⟩) (by show w.heap.size < w1.heap.size; omega)).trans (by simp [hc1])
                have k2 : w2.cell? ⟨w.heap.size, 2, none⟩ = some (.int .i64 x.run) := (hb12.cell (p := ⟨w.heap.size, 2, none⟩) (by show w.heap.size < w1.heap.size; omega)).trans (by simp [hc1])
                have k3 : w2.cell? ⟨w.heap.size, 3, none⟩ = some (.int .i64 x.head) := (hb12.cell (p := ⟨w.heap.size, 3, none⟩) (by show w.heap.size < w1.heap.size; omega)).trans (by simp [hc1])
                have n2 : ¬ w2.heap.size = w.heap.size := by omega
                have n2' : ¬ w.heap.size = w2.heap.size := by omega
                clear hb2 hg2)
             | (go_at_call_of 73 ba; refine (laterTimes_any _ _ _ _ x.A d _ (by omega) hbd.A hd (hcA.out.keep (b1.out _))).mono ?_; rintro e w2 ⟨g2, c2, rfl, hg2, ho2, hb2⟩
                have hb12 : Below w1.heap.size w1 w2 := (b1.out _).trans (hb2.mono (by simp))
                have hg2' : w1.heap.size + 1 ≤ g2 := by simpa using hg2
                have hz2 : w1.heap.size + 1 ≤ w2.heap.size := by have := hb2.size; simpa using this
                have k0 : w2.cell? ⟨w.heap.size, 0, none⟩ = some (.slice (some ⟨ba, oa, none⟩) x.na ca) := (hb12.cell (p := ⟨w.heap.size, 0, none⟩) (by show w.heap.size < w1.heap.size; omega)).trans (by simp [hc1])
                have k1 : w2.cell? ⟨w.heap.size, 1, none⟩ = some (.slice (some ⟨bb, ob, none⟩) x.nb cb) := (hb12.cell (p := ⟨w.heap.size, 1, none⟩) (by show w.heap.size < w1.heap.size; omega)).trans (by simp [hc1])
                have k2 : w2.cell? ⟨w.heap.size, 2, none⟩ = some (.int .i64 x.run) := (hb12.cell (p := ⟨w.heap.size, 2, none⟩) (by show w.heap.size < w1.heap.size; omega)).trans (by simp [hc1])
                have k3 : w2.cell? ⟨w.heap.size, 3, none⟩ = some (.int .i64 x.head) := (hb12.cell (p := ⟨w.heap.size, 3, none⟩) (by show w.heap.size < w1.heap.size; omega)).trans (by simp [hc1])
                have bx : ∀ o, w2.cell? ⟨w1.heap.size, o, none⟩ = (#[.slice none 0 0, .slice none 0 0, .int .i64 0, .int .i64 0] : Array Value)[o]? := box_cells (w := w1.drew) (B := w1.heap.size + 1) (hb2.mono (by simp)) (by show w1.heap.size < _; omega)
                have bf : ∀ o, w2.frozen? ⟨w1.heap.size, o, none⟩ = false := box_free (w := w1.drew) (B := w1.heap.size + 1) (hb2.mono (by simp)) (by show w1.heap.size < _; omega)
                have n2 : ¬ w2.heap.size = w.heap.size := by omega
                have n2' : ¬ w.heap.size = w2.heap.size := by omega
                clear hb2 hg2)
             | (go_at_call_of 73 bb; refine (laterTimes_any _ _ _ _ x.B d _ (by omega) hbd.B hd ((hcB.out.keep hb12))).mono ?_; rintro e w3 ⟨g3, c3, rfl, hg3, ho3, hb3⟩
                have hb13 : Below w1.heap.size w1 w3 := hb12.trans (hb3.mono (by omega))
                have hz3 : w2.heap.size ≤ w3.heap.size := hb3.size
                have m0 : w3.cell? ⟨w.heap.size, 0, none⟩ = some (.slice (some ⟨ba, oa, none⟩) x.na ca) := (hb13.cell (p := ⟨w.heap.size, 0, none⟩) (by show w.heap.size < w1.heap.size; omega)).trans (by simp [hc1])
                have m1 : w3.cell? ⟨w.heap.size, 1, none⟩ = some (.slice (some ⟨bb, ob, none⟩) x.nb cb) := (hb13.cell (p := ⟨w.heap.size, 1, none⟩) (by show w.heap.size < w1.heap.size; omega)).trans (by simp [hc1])
                have m2 : w3.cell? ⟨w.heap.size, 2, none⟩ = some (.int .i64 x.run) := (hb13.cell (p := ⟨w.heap.size, 2, none⟩) (by show w.heap.size < w1.heap.size; omega)).trans (by simp [hc1])
                have m3 : w3.cell? ⟨w.heap.size, 3, none⟩ = some (.int .i64 x.head) := (hb13.cell (p := ⟨w.heap.size, 3, none⟩) (by show w.heap.size < w1.heap.size; omega)).trans (by simp [hc1])
                have z0 : w3.cell? ⟨w.heap.size + 1, 0, none⟩ = some (.slice none 0 0) := (hb13.cell (p := ⟨w.heap.size + 1, 0, none⟩) (by show w.heap.size + 1 < w1.heap.size; omega)).trans (by simp [hc1])
                have z1 : w3.cell? ⟨w.heap.size + 1, 1, none⟩ = some (.slice none 0 0) := (hb13.cell (p := ⟨w.heap.size + 1, 1, none⟩) (by show w.heap.size + 1 < w1.heap.size; omega)).trans (by simp [hc1])
                have z2 : w3.cell? ⟨w.heap.size + 1, 2, none⟩ = some (.int .i64 0) := (hb13.cell (p := ⟨w.heap.size + 1, 2, none⟩) (by show w.heap.size + 1 < w1.heap.size; omega)).trans (by simp [hc1])
                have z3 : w3.cell? ⟨w.heap.size + 1, 3, none⟩ = some (.int .i64 0) := (hb13.cell (p := ⟨w.heap.size + 1, 3, none⟩) (by show w.heap.size + 1 < w1.heap.size; omega)).trans (by simp [hc1])
                have zf : ∀ o, w3.frozen? ⟨w.heap.size + 1, o, none⟩ = false := fun o => (hb13.frozen (p := ⟨w.heap.size + 1, o, none⟩) (by show w.heap.size + 1 < w1.heap.size; omega)).trans (by simp [hf1])
                have hl2 := ho2.lt
                have hne : g2 ≠ g3 := by omega
                have ho2' := ho2.below hb3 ho2.lt
                try have bx' : ∀ o, w3.cell? ⟨w1.heap.size, o, none⟩ = (#[.slice none 0 0, .slice none 0 0, .int .i64 0, .int .i64 0] : Array Value)[o]? := box_keep bx hb3 (by omega)
                try have bf' : ∀ o, w3.frozen? ⟨w1.heap.size, o, none⟩ = false := fun o => (hb3.frozen (p := ⟨w1.heap.size, o, none⟩) (by show w1.heap.size < w2.heap.size; omega)).trans (bf o)
                clear ho2 hb3)
             | (go_at_call_of 73 bb; refine (laterTimes_any _ _ _ _ x.B d _ (by omega) hbd.B hd (hcB.out.keep (hb12.alloc hz2 _))).mono ?_; rintro e w3 ⟨g3, c3, rfl, hg3, ho3, hb3⟩
                have hb13 : Below w1.heap.size w1 w3 := (hb12.alloc hz2 _).trans (hb3.mono (by simp; omega))
                have hz3 : w2.heap.size + 1 ≤ w3.heap.size := by have := hb3.size; simpa using this
                have hg3' : w2.heap.size + 1 ≤ g3 := by simpa using hg3
                have m0 : w3.cell? ⟨w.heap.size, 0, none⟩ = some (.slice (some ⟨ba, oa, none⟩) x.na ca) := (hb13.cell (p := ⟨w.heap.size, 0, none⟩) (by show w.heap.size < w1.heap.size; omega)).trans (by simp [hc1])
                have m1 : w3.cell? ⟨w.heap.size, 1, none⟩ = some (.slice (some ⟨bb, ob, none⟩) x.nb cb) := (hb13.cell (p := ⟨w.heap.size, 1, none⟩) (by show w.heap.size < w1.heap.size; omega)).trans (by simp [hc1])
                have m2 : w3.cell? ⟨w.heap.size, 2, none⟩ = some (.int .i64 x.run) := (hb13.cell (p := ⟨w.heap.size, 2, none⟩) (by show w.heap.size < w1.heap.size; omega)).trans (by simp [hc1])
                have m3 : w3.cell? ⟨w.heap.size, 3, none⟩ = some (.int .i64 x.head) := (hb13.cell (p := ⟨w.heap.size, 3, none⟩) (by show w.heap.size < w1.heap.size; omega)).trans (by simp [hc1])
                have z0 : w3.cell? ⟨w.heap.size + 1, 0, none⟩ = some (.slice none 0 0) := (hb13.cell (p := ⟨w.heap.size + 1, 0, none⟩) (by show w.heap.size + 1 < w1.heap.size; omega)).trans (by simp [hc1])
                have z1 : w3.cell? ⟨w.heap.size + 1, 1, none⟩ = some (.slice none 0 0) := (hb13.cell (p := ⟨w.heap.size + 1, 1, none⟩) (by show w.heap.size + 1 < w1.heap.size; omega)).trans (by simp [hc1])
                have z2 : w3.cell? ⟨w.heap.size + 1, 2, none⟩ = some (.int .i64 0) := (hb13.cell (p := ⟨w.heap.size + 1, 2, none⟩) (by show w.heap.size + 1 < w1.heap.size; omega)).trans (by simp [hc1])
                have z3 : w3.cell? ⟨w.heap.size + 1, 3, none⟩ = some (.int .i64 0) := (hb13.cell (p := ⟨w.heap.size + 1, 3, none⟩) (by show w.heap.size + 1 < w1.heap.size; omega)).trans (by simp [hc1])
                have zf : ∀ o, w3.frozen? ⟨w.heap.size + 1, o, none⟩ = false := fun o => (hb13.frozen (p := ⟨w.heap.size + 1, o, none⟩) (by show w.heap.size + 1 < w1.heap.size; omega)).trans (by simp [hf1])
                have hl2 := ho2.lt
                have hne : g2 ≠ g3 := by omega
                have ho2' := (ho2.alloc _).below hb3 (ho2.alloc _).lt
                have bx := box_cells (w := w2) (B := w2.heap.size + 1) (hb3.mono (by simp)) (by omega)
                have bf := box_free (w := w2) (B := w2.heap.size + 1) (hb3.mono (by simp)) (by omega)
                clear ho2 hb3 hg3))
    · go_wp2_with fail
      refine Calls.mono (implValid_any _ (movSg x d) _ ?hv (by show x.na ≤ _; omega) (by show x.nb ≤ _; omega)) ?_
      case hv =>
        refine ⟨g2, 0, c2, g3, 0, c3, rfl, IC.of_own (cap := c2) (t := 3) (f := fun i => x.A i + d) ?_, IC.of_own (cap := c3) (t := 3) (f := fun i => x.B i + d) ?_⟩
        · show Own _ g2 c2 x.na 1 _ _
          repeat (with_reducible first | exact ho2' | refine Own.setOther ?_ (by dsimp only; omega) _ | refine Own.alloc ?_ _)
        · show Own _ g3 c3 x.nb 1 _ _
          repeat (with_reducible first | exact ho3 | refine Own.setOther ?_ (by dsimp only; omega) _ | refine Own.alloc ?_ _)
      rintro e w4 ⟨rfl, hb4⟩
      have hz4 : w3.heap.size + 1 ≤ w4.heap.size := by have := hb4.size; first | (simpa using this) | (simpa [World.setCell] using this)
      have hWb := hb4.mono (B' := w1.heap.size) (by first | (simp; omega) | (simp [World.setCell]; omega))
      have HB4 : Hid (Below w1.heap.size w1 w4) := by
        refine Below.trans ?_ hWb
        repeat (with_reducible first | exact hb13 | refine Below.setCell ?_ (by dsimp only; omega) _ | refine Below.alloc ?_ (by omega) _)
      have hb4' := hb4.mono (B' := w3.heap.size + 1) (by first | (simp; done) | (simp [World.setCell]; done))
      obtain ⟨hc4, hf4⟩ := bcellB hb4'
      have z0 : w4.cell? ⟨w.heap.size + 1, 0, none⟩ = some (.slice none 0 0) := (HB4.out.cell (p := ⟨w.heap.size + 1, 0, none⟩) (by show w.heap.size + 1 < w1.heap.size; omega)).trans (by simp [hc1])
      have z1 : w4.cell? ⟨w.heap.size + 1, 1, none⟩ = some (.slice none 0 0) := (HB4.out.cell (p := ⟨w.heap.size + 1, 1, none⟩) (by show w.heap.size + 1 < w1.heap.size; omega)).trans (by simp [hc1])
      have z2 : w4.cell? ⟨w.heap.size + 1, 2, none⟩ = some (.int .i64 0) := (HB4.out.cell (p := ⟨w.heap.size + 1, 2, none⟩) (by show w.heap.size + 1 < w1.heap.size; omega)).trans (by simp [hc1])
      have z3 : w4.cell? ⟨w.heap.size + 1, 3, none⟩ = some (.int .i64 0) := (HB4.out.cell (p := ⟨w.heap.size + 1, 3, none⟩) (by show w.heap.size + 1 < w1.heap.size; omega)).trans (by simp [hc1])
      have zf : ∀ o, w4.frozen? ⟨w.heap.size + 1, o, none⟩ = false := fun o => (HB4.out.frozen (p := ⟨w.heap.size + 1, o, none⟩) (by show w.heap.size + 1 < w1.heap.size; omega)).trans (by simp [hf1])
      have t0 : w4.cell? ⟨w3.heap.size, 0, none⟩ = some (.slice (some ⟨g2, 0, none⟩) x.na c2) := (hc4 _ _ (by omega)).trans (by simp)
      have t1 : w4.cell? ⟨w3.heap.size, 1, none⟩ = some (.slice (some ⟨g3, 0, none⟩) x.nb c3) := (hc4 _ _ (by omega)).trans (by simp)
      have t2 : w4.cell? ⟨w3.heap.size, 2, none⟩ = some (.int .i64 x.run) := (hc4 _ _ (by omega)).trans (by simp)
      have t3 : w4.cell? ⟨w3.heap.size, 3, none⟩ = some (.int .i64 x.head) := (hc4 _ _ (by omega)).trans (by simp)
      clear hc4 hf4
      have HO2 : Hid (Own w4 g2 c2 x.na 1 3 (fun i => .int .i64 (x.A i + d))) := by
        refine Own.below ?_ hb4' (by omega)
        repeat (with_reducible first | exact ho2' | refine Own.setOther ?_ (by dsimp only; omega) _ | refine Own.alloc ?_ _)
      have hl3 := ho3.lt
      have HO3 : Hid (Own w4 g3 c3 x.nb 1 3 (fun i => .int .i64 (x.B i + d))) := by
        refine Own.below ?_ hb4' (by omega)
        repeat (with_reducible first | exact ho3 | refine Own.setOther ?_ (by dsimp only; omega) _ | refine Own.alloc ?_ _)
      have HB5 := Lib.hid (HB1.out.trans (HB4.out.mono (by omega)))
      clear hb4 hb4' hWb ho2' ho3 hb13 hb12
      cases hm : sgOk (movSg x d)
      · have HL' : Hid (latOk x d = false) := HL.out.trans hm
        clear hm
        go_wp2_with fail
        refine bodyPost_ret (v := .tuple #[.agg #[.slice none 0 0, .slice none 0 0, .int .i64 0, .int .i64 0], .bool false]) (by simp [results, Try.results38, go_sem, z0, z1, z2, z3]) rfl ⟨_, by rw [HL'.out], fun h => absurd (HL'.out.symm.trans h) (by simp), fun _ => rfl, ?_⟩
        · have h0 := (hbb _ _).trans (HB5.out.mono (by omega))
          repeat (with_reducible first | exact h0 | refine Below.setCell ?_ (by dsimp only; omega) _)
      · have HL' : Hid (latOk x d = true) := HL.out.trans hm
        clear hm
        go_wp2_with fail
        refine bodyPost_ret (v := .tuple #[.agg #[.slice (some ⟨g2, 0, none⟩) x.na c2, .slice (some ⟨g3, 0, none⟩) x.nb c3, .int .i64 x.run, .int .i64 x.head], .bool true]) (by simp [results, Try.results38, go_sem, z0, z1, z2, z3]) rfl ⟨_, by rw [HL'.out], ?_, fun h => absurd (HL'.out.symm.trans h) (by simp), ?_⟩
        · intro _
          show SgF _ _ _ (⟨fun i => x.A i + d, x.na, fun i => x.B i + d, x.nb, x.run, x.head⟩ : Sg)
          refine ⟨g2, c2, g3, c3, rfl, by omega, by omega, by omega, ?_, ?_⟩
          · have h0 := HO2.out
            repeat (with_reducible first | exact h0 | refine Own.setOther ?_ (by dsimp only; omega) _)
          · have h0 := HO3.out
            repeat (with_reducible first | exact h0 | refine Own.setOther ?_ (by dsimp only; omega) _)
        · have h0 := (hbb _ _).trans (HB5.out.mono (by omega))
          repeat (with_reducible first | exact h0 | refine Below.setCell ?_ (by dsimp only; omega) _)
    · go_wp2_with fail
      refine Calls.mono (implValid_any _ (movSg x d) _ ?hv (by show x.na ≤ _; omega) (by show x.nb ≤ _; omega)) ?_
      case hv =>
        refine ⟨g2, 0, c2, g3, 0, c3, rfl, IC.of_own (cap := c2) (t := 3) (f := fun i => x.A i + d) ?_, IC.of_own (cap := c3) (t := 3) (f := fun i => x.B i + d) ?_⟩
        · show Own _ g2 c2 x.na 1 _ _
          repeat (with_reducible first | exact ho2' | refine Own.setOther ?_ (by dsimp only; omega) _ | refine Own.alloc ?_ _)
        · show Own _ g3 c3 x.nb 1 _ _
          repeat (with_reducible first | exact ho3 | refine Own.setOther ?_ (by dsimp only; omega) _ | refine Own.alloc ?_ _)
      rintro e w4 ⟨rfl, hb4⟩
      have hz4 : w3.heap.size ≤ w4.heap.size := by have := hb4.size; first | (simpa using this) | (simpa [World.setCell] using this)
      have hWb := hb4.mono (B' := w1.heap.size) (by first | (simp; omega) | (simp [World.setCell]; omega))
      have HB4 : Hid (Below w1.heap.size w1 w4) := by
        refine Below.trans ?_ hWb
        repeat (with_reducible first | exact hb13 | refine Below.setCell ?_ (by dsimp only; omega) _ | refine Below.alloc ?_ (by omega) _)
      have hb4' := hb4.mono (B' := w3.heap.size) (by first | (simp; done) | (simp [World.setCell]; done))
      obtain ⟨hc4, hf4⟩ := bcellB hb4'
      have z0 : w4.cell? ⟨w.heap.size + 1, 0, none⟩ = some (.slice none 0 0) := (HB4.out.cell (p := ⟨w.heap.size + 1, 0, none⟩) (by show w.heap.size + 1 < w1.heap.size; omega)).trans (by simp [hc1])
      have z1 : w4.cell? ⟨w.heap.size + 1, 1, none⟩ = some (.slice none 0 0) := (HB4.out.cell (p := ⟨w.heap.size + 1, 1, none⟩) (by show w.heap.size + 1 < w1.heap.size; omega)).trans (by simp [hc1])
      have z2 : w4.cell? ⟨w.heap.size + 1, 2, none⟩ = some (.int .i64 0) := (HB4.out.cell (p := ⟨w.heap.size + 1, 2, none⟩) (by show w.heap.size + 1 < w1.heap.size; omega)).trans (by simp [hc1])
      have z3 : w4.cell? ⟨w.heap.size + 1, 3, none⟩ = some (.int .i64 0) := (HB4.out.cell (p := ⟨w.heap.size + 1, 3, none⟩) (by show w.heap.size + 1 < w1.heap.size; omega)).trans (by simp [hc1])
      have zf : ∀ o, w4.frozen? ⟨w.heap.size + 1, o, none⟩ = false := fun o => (HB4.out.frozen (p := ⟨w.heap.size + 1, o, none⟩) (by show w.heap.size + 1 < w1.heap.size; omega)).trans (by simp [hf1])
      have t0 : w4.cell? ⟨w2.heap.size, 0, none⟩ = some (.slice (some ⟨g2, 0, none⟩) x.na c2) := (hc4 _ _ (by omega)).trans (by simp [go_sem, bx])
      have t1 : w4.cell? ⟨w2.heap.size, 1, none⟩ = some (.slice (some ⟨g3, 0, none⟩) x.nb c3) := (hc4 _ _ (by omega)).trans (by simp [go_sem, bx])
      have t2 : w4.cell? ⟨w2.heap.size, 2, none⟩ = some (.int .i64 x.run) := (hc4 _ _ (by omega)).trans (by simp [go_sem, bx])
      have t3 : w4.cell? ⟨w2.heap.size, 3, none⟩ = some (.int .i64 x.head) := (hc4 _ _ (by omega)).trans (by simp [go_sem, bx])
      clear hc4 hf4
      have HO2 : Hid (Own w4 g2 c2 x.na 1 3 (fun i => .int .i64 (x.A i + d))) := by
        refine Own.below ?_ hb4' (by omega)
        repeat (with_reducible first | exact ho2' | refine Own.setOther ?_ (by dsimp only; omega) _ | refine Own.alloc ?_ _)
      have hl3 := ho3.lt
      have HO3 : Hid (Own w4 g3 c3 x.nb 1 3 (fun i => .int .i64 (x.B i + d))) := by
        refine Own.below ?_ hb4' (by omega)
        repeat (with_reducible first | exact ho3 | refine Own.setOther ?_ (by dsimp only; omega) _ | refine Own.alloc ?_ _)
      have HB5 := Lib.hid (HB1.out.trans (HB4.out.mono (by omega)))
      clear hb4 hb4' hWb ho2' ho3 hb13 hb12
      cases hm : sgOk (movSg x d)
      · have HL' : Hid (latOk x d = false) := HL.out.trans hm
        clear hm
        go_wp2_with fail
        refine bodyPost_ret (v := .tuple #[.agg #[.slice none 0 0, .slice none 0 0, .int .i64 0, .int .i64 0], .bool false]) (by simp [results, Try.results38, go_sem, z0, z1, z2, z3]) rfl ⟨_, by rw [HL'.out], fun h => absurd (HL'.out.symm.trans h) (by simp), fun _ => rfl, ?_⟩
        · have h0 := (hbb _ _).trans (HB5.out.mono (by omega))
          repeat (with_reducible first | exact h0 | refine Below.setCell ?_ (by dsimp only; omega) _)
      · have HL' : Hid (latOk x d = true) := HL.out.trans hm
        clear hm
        go_wp2_with fail
        refine bodyPost_ret (v := .tuple #[.agg #[.slice (some ⟨g2, 0, none⟩) x.na c2, .slice (some ⟨g3, 0, none⟩) x.nb c3, .int .i64 x.run, .int .i64 x.head], .bool true]) (by simp [results, Try.results38, go_sem, z0, z1, z2, z3]) rfl ⟨_, by rw [HL'.out], ?_, fun h => absurd (HL'.out.symm.trans h) (by simp), ?_⟩
        · intro _
          show SgF _ _ _ (⟨fun i => x.A i + d, x.na, fun i => x.B i + d, x.nb, x.run, x.head⟩ : Sg)
          refine ⟨g2, c2, g3, c3, rfl, by omega, by omega, by omega, ?_, ?_⟩
          · have h0 := HO2.out
            repeat (with_reducible first | exact h0 | refine Own.setOther ?_ (by dsimp only; omega) _)
          · have h0 := HO3.out
            repeat (with_reducible first | exact h0 | refine Own.setOther ?_ (by dsimp only; omega) _)
        · have h0 := (hbb _ _).trans (HB5.out.mono (by omega))
          repeat (with_reducible first | exact h0 | refine Below.setCell ?_ (by dsimp only; omega) _)
    · go_wp2_with fail
      refine Calls.mono (implValid_any _ (movSg x d) _ ?hv (by show x.na ≤ _; omega) (by show x.nb ≤ _; omega)) ?_
      case hv =>
        refine ⟨g2, 0, c2, g3, 0, c3, rfl, IC.of_own (cap := c2) (t := 3) (f := fun i => x.A i + d) ?_, IC.of_own (cap := c3) (t := 3) (f := fun i => x.B i + d) ?_⟩
        · show Own _ g2 c2 x.na 1 _ _
          repeat (with_reducible first | exact ho2' | refine Own.setOther ?_ (by dsimp only; omega) _ | refine Own.alloc ?_ _)
        · show Own _ g3 c3 x.nb 1 _ _
          repeat (with_reducible first | exact ho3 | refine Own.setOther ?_ (by dsimp only; omega) _ | refine Own.alloc ?_ _)
      rintro e w4 ⟨rfl, hb4⟩
      have hz4 : w3.heap.size ≤ w4.heap.size := by have := hb4.size; first | (simpa using this) | (simpa [World.setCell] using this)
      have hWb := hb4.mono (B' := w1.heap.size) (by first | (simp; omega) | (simp [World.setCell]; omega))
      have HB4 : Hid (Below w1.heap.size w1 w4) := by
        refine Below.trans ?_ hWb
        repeat (with_reducible first | exact hb13 | refine Below.setCell ?_ (by dsimp only; omega) _ | refine Below.alloc ?_ (by omega) _)
      have hb4' := hb4.mono (B' := w3.heap.size) (by first | (simp; done) | (simp [World.setCell]; done))
      obtain ⟨hc4, hf4⟩ := bcellB hb4'
      have z0 : w4.cell? ⟨w.heap.size + 1, 0, none⟩ = some (.slice none 0 0) := (HB4.out.cell (p := ⟨w.heap.size + 1, 0, none⟩) (by show w.heap.size + 1 < w1.heap.size; omega)).trans (by simp [hc1])
      have z1 : w4.cell? ⟨w.heap.size + 1, 1, none⟩ = some (.slice none 0 0) := (HB4.out.cell (p := ⟨w.heap.size + 1, 1, none⟩) (by show w.heap.size + 1 < w1.heap.size; omega)).trans (by simp [hc1])
      have z2 : w4.cell? ⟨w.heap.size + 1, 2, none⟩ = some (.int .i64 0) := (HB4.out.cell (p := ⟨w.heap.size + 1, 2, none⟩) (by show w.heap.size + 1 < w1.heap.size; omega)).trans (by simp [hc1])
      have z3 : w4.cell? ⟨w.heap.size + 1, 3, none⟩ = some (.int .i64 0) := (HB4.out.cell (p := ⟨w.heap.size + 1, 3, none⟩) (by show w.heap.size + 1 < w1.heap.size; omega)).trans (by simp [hc1])
      have zf : ∀ o, w4.frozen? ⟨w.heap.size + 1, o, none⟩ = false := fun o => (HB4.out.frozen (p := ⟨w.heap.size + 1, o, none⟩) (by show w.heap.size + 1 < w1.heap.size; omega)).trans (by simp [hf1])
      have t0 : w4.cell? ⟨w1.heap.size, 0, none⟩ = some (.slice (some ⟨g2, 0, none⟩) x.na c2) := (hc4 _ _ (by omega)).trans (by simp [go_sem, bx'])
      have t1 : w4.cell? ⟨w1.heap.size, 1, none⟩ = some (.slice (some ⟨g3, 0, none⟩) x.nb c3) := (hc4 _ _ (by omega)).trans (by simp [go_sem, bx'])
      have t2 : w4.cell? ⟨w1.heap.size, 2, none⟩ = some (.int .i64 x.run) := (hc4 _ _ (by omega)).trans (by simp [go_sem, bx'])
      have t3 : w4.cell? ⟨w1.heap.size, 3, none⟩ = some (.int .i64 x.head) := (hc4 _ _ (by omega)).trans (by simp [go_sem, bx'])
      clear hc4 hf4
      have HO2 : Hid (Own w4 g2 c2 x.na 1 3 (fun i => .int .i64 (x.A i + d))) := by
        refine Own.below ?_ hb4' (by omega)
        repeat (with_reducible first | exact ho2' | refine Own.setOther ?_ (by dsimp only; omega) _ | refine Own.alloc ?_ _)
      have hl3 := ho3.lt
      have HO3 : Hid (Own w4 g3 c3 x.nb 1 3 (fun i => .int .i64 (x.B i + d))) := by
        refine Own.below ?_ hb4' (by omega)
        repeat (with_reducible first | exact ho3 | refine Own.setOther ?_ (by dsimp only; omega) _ | refine Own.alloc ?_ _)
      have HB5 := Lib.hid (HB1.out.trans (HB4.out.mono (by omega)))
      clear hb4 hb4' hWb ho2' ho3 hb13 hb12
      cases hm : sgOk (movSg x d)
      · have HL' : Hid (latOk x d = false) := HL.out.trans hm
        clear hm
        go_wp2_with fail
        refine bodyPost_ret (v := .tuple #[.agg #[.slice none 0 0, .slice none 0 0, .int .i64 0, .int .i64 0], .bool false]) (by simp [results, Try.results38, go_sem, z0, z1, z2, z3]) rfl ⟨_, by rw [HL'.out], fun h => absurd (HL'.out.symm.trans h) (by simp), fun _ => rfl, ?_⟩
        · have h0 := (hbb _ _).trans (HB5.out.mono (by omega))
          repeat (with_reducible first | exact h0 | refine Below.setCell ?_ (by dsimp only; omega) _)
      · have HL' : Hid (latOk x d = true) := HL.out.trans hm
        clear hm
        go_wp2_with fail
        refine bodyPost_ret (v := .tuple #[.agg #[.slice (some ⟨g2, 0, none⟩) x.na c2, .slice (some ⟨g3, 0, none⟩) x.nb c3, .int .i64 x.run, .int .i64 x.head], .bool true]) (by simp [results, Try.results38, go_sem, z0, z1, z2, z3]) rfl ⟨_, by rw [HL'.out], ?_, fun h => absurd (HL'.out.symm.trans h) (by simp), ?_⟩
        · intro _
          show SgF _ _ _ (⟨fun i => x.A i + d, x.na, fun i => x.B i + d, x.nb, x.run, x.head⟩ : Sg)
          refine ⟨g2, c2, g3, c3, rfl, by omega, by omega, by omega, ?_, ?_⟩
          · have h0 := HO2.out
            repeat (with_reducible first | exact h0 | refine Own.setOther ?_ (by dsimp only; omega) _)
          · have h0 := HO3.out
            repeat (with_reducible first | exact h0 | refine Own.setOther ?_ (by dsimp only; omega) _)
        · have h0 := (hbb _ _).trans (HB5.out.mono (by omega))
          repeat (with_reducible first | exact h0 | refine Below.setCell ?_ (by dsimp only; omega) _)
  · have HL : Hid (latOk x d = false) := by simp [latOk, inB_false.2 hd, Hid]
    clear hs
    by_cases h1 : d < -2000
    · go_wp2_with fail
      refine bodyPost_ret (v := .tuple #[.agg #[.slice none 0 0, .slice none 0 0, .int .i64 0, .int .i64 0], .bool false]) (by simp [results, Try.results38, go_sem, hc1]) rfl ⟨_, by rw [HL.out], fun h => absurd (HL.out.symm.trans h) (by simp), fun _ => rfl, ?_⟩
      · have h0 := (hbb _ _).trans (HB1.out.mono (by omega))
        repeat (with_reducible first | exact h0 | refine Below.setCell ?_ (by dsimp only; omega) _)
    · have h2 : d > 2000 := by omega
      clear hd
      go_wp2_with fail
      refine bodyPost_ret (v := .tuple #[.agg #[.slice none 0 0, .slice none 0 0, .int .i64 0, .int .i64 0], .bool false]) (by simp [results, Try.results38, go_sem, hc1]) rfl ⟨_, by rw [HL.out], fun h => absurd (HL.out.symm.trans h) (by simp), fun _ => rfl, ?_⟩
      · have h0 := (hbb _ _).trans (HB1.out.mono (by omega))
        repeat (with_reducible first | exact h0 | refine Below.setCell ?_ (by dsimp only; omega) _)
theorem specLater_any (v : Value) (x : Sg) (w : World) (d : Int) (hv : SgV w v x) (ha : x.na ≤ 1000000000000000) (hb : x.nb ≤ 1000000000000000) :
    Calls Try.prog 39 #[v, .int .i64 d] w (SgRes (latOk x d) (movSg x d) w) := (specLaterG_any v x w d hv ha hb).mono fun _ _ h => h.res
theorem implLater_any (v : Value) (x : Sg) (w : World) (d : Int) (hv : SgV w v x) (ha : x.na ≤ 1000000000000000) (hb : x.nb ≤ 1000000000000000) :
    Calls Try.prog 38 #[v, .int .i64 d] w (SgRes (latOk x d) (movSg x d) w) := (implLaterG_any v x w d hv ha hb).mono fun _ _ h => h.res
end Go.Proofs.Ytnhkijfibiffnaa
