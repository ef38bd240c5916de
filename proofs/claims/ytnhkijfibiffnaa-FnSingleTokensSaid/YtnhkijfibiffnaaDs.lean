/-
  Walks of the draws of single lines: bounds alone.
-/
import Derived.Test.YtnhkijfibiffnaaRx
import Derived.Test.YtnhkijfibiffnaaU
import Derived.Deep.RegionWith
import Derived.Deep.DrawnRows
namespace Go.Proofs.Ytnhkijfibiffnaa
open Go.RowKit
attribute [local go_sem ↓] Go.wp_at_zero Go.wp_at_succ

/-- what l92Single has made so far -/
structure SgM (w0 : World) (R : Nat) (wr : World) (gA jA cA gB jB cB : Nat) (fA fB : Nat → Int) (run head : Int) : Prop where
  res : Bx wr w0.heap.size 25 #[.slice none 0 0, .slice none 0 0, .int .i64 0, .int .i64 0]
  box : Bx wr (w0.heap.size + 1 + 1 + 1) 25 #[.slice (some ⟨gA, 0, none⟩) jA cA, .slice (some ⟨gB, 0, none⟩) jB cB, .int .i64 run, .int .i64 head]
  A : Own wr gA cA jA 1 3 (fun i => .int .i64 (fA i))
  B : Own wr gB cB jB 1 3 (fun i => .int .i64 (fB i))
  hA : w0.heap.size < gA
  hB : w0.heap.size < gB
  nA : gA ≠ w0.heap.size + 1 + 1 + 1
  nB : gB ≠ w0.heap.size + 1 + 1 + 1
  nAB : gA ≠ gB
  lR : R < w0.heap.size
  gr : w0.grownBy wr (some R)
variable {w0 wr wa w' : World} {R gA jA cA gB jB cB : Nat} {fA fB : Nat → Int} {run head : Int}
theorem SgM.pick (h : SgM w0 R wr gA jA cA gB jB cB fA fB run head) (hg : wr.grownBy w' (some R)) : SgM w0 R w' gA jA cA gB jB cB fA fB run head := by
  have := h.lR
  have := h.hA
  have := h.hB
  exact ⟨h.res.kept hg (by omega), h.box.kept hg (by omega), h.A.picked hg (by omega), h.B.picked hg (by omega), h.hA, h.hB, h.nA, h.nB, h.nAB, h.lR, grownBy_trans h.gr hg⟩
theorem SgM.drewN (h : SgM w0 R wr gA jA cA gB jB cB fA fB run head) (q : Nat) : SgM w0 R (wr.drewN q) gA jA cA gB jB cB fA fB run head := h.pick (grownBy_drewN _ _ _)
theorem SgM.drew (h : SgM w0 R wr gA jA cA gB jB cB fA fB run head) : SgM w0 R wr.drew gA jA cA gB jB cB fA fB run head := h.drewN 1
theorem SgM.alloc (h : SgM w0 R wr gA jA cA gB jB cB fA fB run head) (o : Obj) : SgM w0 R (wr.alloc o) gA jA cA gB jB cB fA fB run head := h.pick (World.grownBy_alloc _ _ _)
theorem SgM.pushA (h : SgM w0 R wr gA jA cA gB jB cB fA fB run head) {g c : Nat} {f : Nat → Int} (hO : Own wa g c (jA + 1) 1 3 (fun i => .int .i64 (f i))) (hg : wr.grownBy wa (some gA)) (hd : (g = gA ∧ c = cA) ∨ wr.heap.size < g) :
    SgM w0 R (wa.setCell ⟨w0.heap.size + 1 + 1 + 1, 0, none⟩ (.slice (some ⟨g, 0, none⟩) (jA + 1) c)) g (jA + 1) c gB jB cB f fB run head := by
  have h1 := h.nA
  have h2 := h.nB
  have h3 := h.nAB
  have h4 := h.hA
  have h5 := h.hB
  have h6 := h.box.lt
  have h7 := h.B.lt
  have h8 := h.gr.size
  exact ⟨(h.res.kept hg (by omega)).setOther (by dsimp only; omega) _, (h.box.kept hg (by omega)).set 0 _, hO.setOther (by dsimp only; omega) _, (h.B.kept hg (by simp; omega)).setOther (by dsimp only; omega) _, by omega, h.hB, by omega, h.nB, by omega, h.lR,
    grow_new (grow_new h.gr hg (by omega)) (grownBy_setCell _ _ _ _) (by omega)⟩
theorem SgM.pushB (h : SgM w0 R wr gA jA cA gB jB cB fA fB run head) {g c : Nat} {f : Nat → Int} (hO : Own wa g c (jB + 1) 1 3 (fun i => .int .i64 (f i))) (hg : wr.grownBy wa (some gB)) (hd : (g = gB ∧ c = cB) ∨ wr.heap.size < g) :
    SgM w0 R (wa.setCell ⟨w0.heap.size + 1 + 1 + 1, 1, none⟩ (.slice (some ⟨g, 0, none⟩) (jB + 1) c)) gA jA cA g (jB + 1) c fA f run head := by
  have h1 := h.nA
  have h2 := h.nB
  have h3 := h.nAB
  have h4 := h.hA
  have h5 := h.hB
  have h6 := h.box.lt
  have h7 := h.A.lt
  have h8 := h.gr.size
  exact ⟨(h.res.kept hg (by omega)).setOther (by dsimp only; omega) _, (h.box.kept hg (by omega)).set 1 _, (h.A.kept hg (by simp; omega)).setOther (by dsimp only; omega) _, hO.setOther (by dsimp only; omega) _, h.hA, by omega, h.nA, by omega, by omega, h.lR,
    grow_new (grow_new h.gr hg (by omega)) (grownBy_setCell _ _ _ _) (by omega)⟩
theorem SgM.setRun (h : SgM w0 R wr gA jA cA gB jB cB fA fB run head) (v : Int) : SgM w0 R (wr.setCell ⟨w0.heap.size + 1 + 1 + 1, 2, none⟩ (.int .i64 v)) gA jA cA gB jB cB fA fB v head := by
  have h1 := h.nA
  have h2 := h.nB
  exact ⟨h.res.setOther (by dsimp only; omega) _, h.box.set 2 _, h.A.setOther (by dsimp only; omega) _, h.B.setOther (by dsimp only; omega) _, h.hA, h.hB, h.nA, h.nB, h.nAB, h.lR, grow_new h.gr (grownBy_setCell _ _ _ _) (by omega)⟩
theorem SgM.setHead (h : SgM w0 R wr gA jA cA gB jB cB fA fB run head) (v : Int) : SgM w0 R (wr.setCell ⟨w0.heap.size + 1 + 1 + 1, 3, none⟩ (.int .i64 v)) gA jA cA gB jB cB fA fB run v := by
  have h1 := h.nA
  have h2 := h.nB
  exact ⟨h.res.setOther (by dsimp only; omega) _, h.box.set 3 _, h.A.setOther (by dsimp only; omega) _, h.B.setOther (by dsimp only; omega) _, h.hA, h.hB, h.nA, h.nB, h.nAB, h.lR, grow_new h.gr (grownBy_setCell _ _ _ _) (by omega)⟩

/-- one of two -/
def sel2 (a b : Int) (k : Nat) : Int := if k = 0 then a else b
theorem sel2_arr (a b : Int) {k : Nat} (h : k < 2) : (#[Value.int .i64 a, .int .i64 b] : Array Value)[k]? = some (.int .i64 (sel2 a b k)) := by
  have : k = 0 ∨ k = 1 := by omega
  rcases this with rfl | rfl <;> rfl
theorem sel2_lst (a b : Int) {k : Nat} (h : k < 2) : ([Value.int .i64 a, .int .i64 b] : List Value)[k]? = some (.int .i64 (sel2 a b k)) := by
  have : k = 0 ∨ k = 1 := by omega
  rcases this with rfl | rfl <;> rfl
theorem sel2_get (a b : Int) (k : Nat) : ∀ h, ([Value.int .i64 a, .int .i64 b] : List Value)[k]'h = .int .i64 (sel2 a b k) := fun h => by
  have : k = 0 ∨ k = 1 := by simp at h; omega
  rcases this with rfl | rfl <;> rfl
theorem sel2_bd (a b : Int) (k : Nat) : sel2 a b k = a ∨ sel2 a b k = b := by unfold sel2; split <;> simp

/-- a drawn single line -/
def DSg (R M : Nat) (w : World) (e : Ending) (w' : World) : Prop :=
  ∃ v x, e = .returned v ∧ SgF w.heap.size w' v x ∧ x.na ≤ 5 ∧ x.nb ≤ 5 ∧ (0 ≤ x.run ∧ x.run ≤ 101 ∧ 0 ≤ x.head ∧ x.head ≤ 102) ∧ RdL w' R M ∧ w.grownBy w' (some R)

theorem DSg.alloc {M : Nat} {w : World} {e : Ending} (h : DSg R M w e w') (o : Obj) : DSg R M w e (w'.alloc o) := by
  obtain ⟨v, x, h1, h2, h3, h4, h5, h6, h7⟩ := h
  exact ⟨v, x, h1, h2.keep (below_all _ _), h3, h4, h5, h6.alloc _, grownBy_trans h7 (World.grownBy_alloc _ _ _)⟩
theorem SgM.done (h : SgM w0 R wr gA jA cA gB jB cB fA fB run head) {M M' : Nat} (hr : RdL wr R M) (hM : M ≤ M') (hA : jA ≤ 5) (hB : jB ≤ 5) (hb : 0 ≤ run ∧ run ≤ 101 ∧ 0 ≤ head ∧ head ≤ 102) {v0 v1 v2 v3 : Value} :
    DSg R M' w0 (.returned (.agg #[.slice (some ⟨gA, 0, none⟩) jA cA, .slice (some ⟨gB, 0, none⟩) jB cB, .int .i64 run, .int .i64 head]))
      ((((wr.setCell ⟨w0.heap.size, 0, none⟩ v0).setCell ⟨w0.heap.size, 1, none⟩ v1).setCell ⟨w0.heap.size, 2, none⟩ v2).setCell ⟨w0.heap.size, 3, none⟩ v3) := by
  have h1 := h.hA
  have h2 := h.hB
  have h3 := h.lR
  refine ⟨_, ⟨fA, jA, fB, jB, run, head⟩, rfl, ⟨gA, cA, gB, cB, rfl, by omega, by omega, h.nAB, ((((h.A.setOther (by dsimp only; omega) _).setOther (by dsimp only; omega) _).setOther (by dsimp only; omega) _).setOther (by dsimp only; omega) _), ((((h.B.setOther (by dsimp only; omega) _).setOther (by dsimp only; omega) _).setOther (by dsimp only; omega) _).setOther (by dsimp only; omega) _)⟩, hA, hB, hb, ((((hr.set h3).set h3).set h3).set h3).mono hM, ?_⟩
  exact grow_new (grow_new (grow_new (grow_new h.gr (grownBy_setCell _ _ _ _) (Nat.le_refl _)) (grownBy_setCell _ _ _ _) (Nat.le_refl _)) (grownBy_setCell _ _ _ _) (Nat.le_refl _)) (grownBy_setCell _ _ _ _) (Nat.le_refl _)

set_option maxRecDepth 100000 in
set_option maxHeartbeats 2000000 in
theorem l92Single_any (R m : Nat) (w : World) (hm : m ≤ 100000) (hr : RdL w R m) :
    Calls Try.prog 56 #[.pointer (some ⟨R, 0, none⟩)] w (DSg R (m + 16) w) := by
  have hlR := hr.lt
  have HR0 := Lib.hid hr
  clear hr
  go_enter Try.func56, Try.ntmps56
  go_wp2_with fail
  refine (pickN_any R m 30 _ (by omega) (by omega) (((HR0.out.alloc _).alloc _).alloc2 _ _)).mono ?_
  rintro e w1 ⟨a, rfl, ha, hr1, hg1⟩
  have HR1 := Lib.hid hr1
  have HM1 : Hid (SgM w R w1 (w.heap.size + 1) 0 0 (w.heap.size + 1 + 1) 0 0 (fun _ => 0) (fun _ => 0) 0 0) := SgM.pick ⟨(((Bx.new w _ _).alloc _).alloc _).alloc _, Bx.newAt (by simp), ((own_emptyAt (by simp)).alloc _).alloc _, (own_emptyAt (by simp)).alloc _, by omega, by omega, by omega, by omega, by omega, hlR, grownBy_trans (grownBy_trans (grownBy_trans (World.grownBy_alloc _ _ _) (World.grownBy_alloc _ _ _)) (World.grownBy_alloc _ _ _)) (World.grownBy_alloc _ _ _)⟩ hg1
  clear hr1 hg1
  go_wp2_with fail
  refine (pickN_any R (m + 1) 30 _ (by omega) (by omega) HR1.out).mono ?_
  rintro e w2 ⟨b, rfl, hb, hr2, hg2⟩
  have HR2 := Lib.hid hr2
  have HM2 := Lib.hid (HM1.out.pick hg2)
  clear hr2 hg2
  go_wp2_with fail
  refine (pickN_any R (m + 2) 4 _ (by omega) (by omega) HR2.out).mono ?_
  rintro e w3 ⟨n1, rfl, hn1, hr3, hg3⟩
  have HR3 := Lib.hid hr3
  have HM3 := Lib.hid (HM2.out.pick hg3)
  clear hr3 hg3
  go_wp2_with fail
  refine (pickN_any R (m + 3) 4 _ (by omega) (by omega) HR3.out).mono ?_
  rintro e w4 ⟨n2, rfl, hn2, hr4, hg4⟩
  have HR4 := Lib.hid hr4
  have HM4 := Lib.hid (HM3.out.pick hg4)
  clear hr4 hg4 HM1 HM2 HM3 HR1 HR2 HR3
  go_wp2_with fail
  go_loopw [4, 8] (fun sa si wr => ∃ (j g c : Nat) (f : Nat → Int) (q : Nat), j ≤ n1 ∧ si = .int .i64 j ∧ sa = .int .i64 q ∧ q ≤ 30 + 9 * j ∧ Hid (SgM w R wr g j c (w.heap.size + 1 + 1) 0 0 f (fun _ => 0) 0 0) ∧ Hid (RdL wr R (m + 4 + j))) (fun _ si _ => n1 - (intOf si).toNat)
  case atStart => exact ⟨0, _, _, _, a, Nat.zero_le _, rfl, rfl, by omega, HM4, HR4⟩
  case round =>
    obtain ⟨j, g, c, f, q, hj, rfl, rfl, hq, HM, HR⟩ := hrel
    by_cases hlt : j < n1
    · have hbx := HM.out.box.cell
      go_wp2_with (at_builtin; refine wpList_pushI elInt rfl (.tmp 27) (.tmp 29) (by rfl) (f := fun i => if i = j then (q : Int) else f i) (HM.out.A.congr (fun i hi => by rw [if_neg (by omega)])) (by rfl) (by rfl) (by simp) (by omega) ?_; intro g' c' wa HA hgr hd; have hbx2 := (HM.out.box.kept hgr (by have := HM.out.nA; omega)).cell; have hbf2 := (HM.out.box.kept hgr (by have := HM.out.nA; omega)).free; have HMa := Lib.hid (HM.out.pushA HA hgr hd); have HRa := Lib.hid ((HR.out.kept hgr (by have := HM.out.hA; omega)).set (g := w.heap.size + 1 + 1 + 1) (o := 0) (v := .slice (some ⟨g', 0, none⟩) (j + 1) c') (by omega)); clear HA hgr hd)
      refine (pickN_any R (m + 4 + j) 9 _ (by omega) (by omega) HRa.out).mono ?_
      rintro e wb ⟨v, rfl, hv, hrb, hgb⟩
      have HMb := Lib.hid (HMa.out.pick hgb)
      have HRb := Lib.hid hrb
      clear hrb hgb
      clear hbx hbx2 hbf2
      go_wp2_with fail
      go_roundw
      case rel => exact ⟨j + 1, g', c', _, q + v, by omega, by go_num, by go_num, by omega, HMb, HRb⟩
      case measure => simp [intOf]; omega
    · obtain rfl : j = n1 := by omega
      clear hlt hj HM4 HR4
      go_wp2_with fail
      go_loopw [5, 9] (fun sa si wr => ∃ (k gB cB : Nat) (fB : Nat → Int) (q : Nat), k ≤ n2 ∧ si = .int .i64 k ∧ sa = .int .i64 q ∧ q ≤ 30 + 9 * k ∧ Hid (SgM w R wr g j c gB k cB f fB 0 0) ∧ Hid (RdL wr R (m + 4 + j + k))) (fun _ si _ => n2 - (intOf si).toNat)
      case atStart => exact ⟨0, _, _, _, b, Nat.zero_le _, rfl, rfl, by omega, HM, HR⟩
      case round =>
        obtain ⟨k, gB, cB, fB, q2, hk, rfl, rfl, hq2, HM, HR⟩ := hrel
        by_cases hlt : k < n2
        · have hbx := HM.out.box.cell
          go_wp2_with (at_builtin; refine wpList_pushI elInt rfl (.tmp 42) (.tmp 44) (by rfl) (f := fun i => if i = k then (q2 : Int) else fB i) (HM.out.B.congr (fun i hi => by rw [if_neg (by omega)])) (by rfl) (by rfl) (by simp) (by omega) ?_; intro g' c' wa HA hgr hd; have hbx2 := (HM.out.box.kept hgr (by have := HM.out.nB; omega)).cell; have hbf2 := (HM.out.box.kept hgr (by have := HM.out.nB; omega)).free; have HMa := Lib.hid (HM.out.pushB HA hgr hd); have HRa := Lib.hid ((HR.out.kept hgr (by have := HM.out.hB; omega)).set (g := w.heap.size + 1 + 1 + 1) (o := 1) (v := .slice (some ⟨g', 0, none⟩) (k + 1) c') (by omega)); clear HA hgr hd)
          refine (pickN_any R (m + 4 + j + k) 9 _ (by omega) (by omega) HRa.out).mono ?_
          rintro e wb ⟨v, rfl, hv, hrb, hgb⟩
          have HMb := Lib.hid (HMa.out.pick hgb)
          have HRb := Lib.hid hrb
          clear hrb hgb
          clear hbx hbx2 hbf2
          go_wp2_with fail
          go_roundw
          case rel => exact ⟨k + 1, g', c', _, q2 + v, by omega, by go_num, by go_num, by omega, HMb, HRb⟩
          case measure => simp [intOf]; omega
        · obtain rfl : k = n2 := by omega
          clear hlt hk
          go_wp2_with fail
          refine (pickN_any R (m + 4 + j + k) 12 _ (by omega) (by omega) HR.out).mono ?_
          rintro e w5 ⟨u, rfl, hu, hr5, hg5⟩
          have HR5 := Lib.hid hr5
          have HM5 := Lib.hid (HM.out.pick hg5)
          have hbx5 := HM5.out.box.cell
          have hbf5 := HM5.out.box.free
          clear hr5 hg5
          go_wp2_with fail
          have HM6 := Lib.hid (HM5.out.setRun (2 + u))
          have HR6 := Lib.hid (HR5.out.set (g := w.heap.size + 1 + 1 + 1) (o := 2) (v := .int .i64 (2 + u)) (by omega))
          clear hbx5 hbf5
          refine (pick_any R (m + 4 + j + k + 1) (2 + u) _ (by omega) (by omega) HR6.out).mono ?_
          rintro e w7 ⟨v, rfl, hv, hr7, hg7⟩
          have hvb := pkB_lt hv (by omega)
          have HR7 := Lib.hid hr7
          have HM7 := Lib.hid (HM6.out.pick hg7)
          have hbx7 := HM7.out.box.cell
          have hbf7 := HM7.out.box.free
          clear hr7 hg7 hv
          go_wp2_with fail
          have HM8 := Lib.hid (HM7.out.setHead (1 + v))
          have HR8 := Lib.hid (HR7.out.set (g := w.heap.size + 1 + 1 + 1) (o := 3) (v := .int .i64 (1 + v)) (by omega))
          clear hbx7 hbf7
          refine (pickN_any R (m + 4 + j + k + 2) 40 _ (by omega) (by omega) HR8.out).mono ?_
          rintro e w9 ⟨x, rfl, hx, hr9, hg9⟩
          have HR9 := Lib.hid hr9
          have HM9 := Lib.hid (HM8.out.pick hg9)
          clear hr9 hg9 HM8 HR8 HM7 HR7 HM6 HR6 HM5 HR5
          by_cases h0 : x = 0
          · subst h0
            have hbx := HM9.out.box.cell
            have hbf := HM9.out.box.free
            have hl9 := HR9.out.lt
            have hb9 := HM9.out.box.lt
            have hr9 := HM9.out.res.lt
            have hne9 : w9.heap.size ≠ R := by omega
            have hw1 : IntKind.i64.wrap (2 + (u : Int) + 1) = 2 + (u : Int) + 1 := IntWalk.i64_in _ (by omega)
            go_wp2_with fail
            go_region_with (first
              | (go_at_call 62; refine Calls.mono (pickN_any R (m + 4 + j + k + 3) 2 _ (by omega) (by omega) (by first | exact HR9.out.drew | exact HR9.out.drew.alloc _)) ?_; rintro e wa ⟨y, rfl, hy, hra, hga⟩; have HMa : Hid (SgM w R wa g j c gB k cB f fB (2 + (u : Int)) (1 + v)) := (by first | exact HM9.out.drew.pick hga | exact (HM9.out.drew.alloc _).pick hga); have hbxa := HMa.out.box.cell; have hbfa := HMa.out.box.free; have hlS := HMa.out.box.lt; have hs1 := sel2_arr 0 (2 + (u : Int) + 1) hy; have hs2 := sel2_lst 0 (2 + (u : Int) + 1) hy; have hs3 := sel2_get 0 (2 + (u : Int) + 1) y; (try have hy3 : wa.cell? ⟨w9.heap.size, y, none⟩ = some (.int .i64 (sel2 0 (2 + (u : Int) + 1) y)) := ((gcell hga w9.heap.size y (by simp) (by omega)).trans (by rw [← sel2_arr 0 (2 + (u : Int) + 1) hy]; exact box_new w9.drew _ _ y))); have HRa := Lib.hid hra; clear hra hga))
            all_goals
              have hrs := HMa.out.res.free
              have hrc := HMa.out.res.cell
              have hrl := HMa.out.res.lt
              have hsb := sel2_bd 0 (2 + (u : Int) + 1) y
              have hhb : 0 ≤ sel2 0 (2 + (u : Int) + 1) y ∧ sel2 0 (2 + (u : Int) + 1) y ≤ 102 := by omega
              have HHB := Lib.hid hhb
              clear hsb hhb hw1
              go_wp2_with fail
              refine bodyPost_ret (v := .agg #[.slice (some ⟨g, 0, none⟩) j c, .slice (some ⟨gB, 0, none⟩) k cB, .int .i64 (2 + (u : Int)), .int .i64 (sel2 0 (2 + (u : Int) + 1) y)]) ?_ rfl ?_
              · first | (simp [results, Try.results56, go_sem, hrc]; done) | simp [results, Try.results56, go_sem, hrc, hrl]
              · (with_reducible first | exact (HMa.out.setHead _).done (HRa.out.set (by omega)) (by omega) (by omega) (by omega) (by have := HHB.out; omega) | exact DSg.alloc ((HMa.out.setHead _).done (HRa.out.set (by omega)) (by omega) (by omega) (by omega) (by have := HHB.out; omega)) _)
          have c0 : ((x : Int) == 0) = false := by simp; omega
          by_cases h1 : x = 1
          · subst h1
            clear h0
            have hbx := HM9.out.box.cell
            have hbf := HM9.out.box.free
            go_wp2_with fail
            refine (pickN_any R (m + 4 + j + k + 3) 2 _ (by omega) (by omega) (HR9.out.alloc _)).mono ?_
            rintro e wa ⟨y, rfl, hy, hra, hga⟩
            have hya := box_kept (box_new w9 _ _) hga (by simp) (by have := HR9.out.lt; omega)
            have HRa := Lib.hid hra
            have HMa := Lib.hid ((HM9.out.alloc _).pick hga)
            clear hra hga hbx hbf
            have hbx := HMa.out.box.cell
            have hbf := HMa.out.box.free
            have hy2 : y = 0 ∨ y = 1 := by omega
            rcases hy2 with rfl | rfl
            · have hrs := HMa.out.res.free
              have hrc := HMa.out.res.cell
              have hxc := HMa.out.box.cell
              go_wp2_with fail
              exact bodyPost_ret (v := .agg #[.slice (some ⟨g, 0, none⟩) (j) c, .slice (some ⟨gB, 0, none⟩) (k) cB, .int .i64 (0), .int .i64 (1 + v)]) (by simp [results, Try.results56, go_sem, hrc]) rfl ((HMa.out.setRun 0).done (HRa.out.set (by omega)) (by omega) (by omega) (by omega) (by omega))
            · have hrs := HMa.out.res.free
              have hrc := HMa.out.res.cell
              have hxc := HMa.out.box.cell
              go_wp2_with fail
              exact bodyPost_ret (v := .agg #[.slice (some ⟨g, 0, none⟩) (j) c, .slice (some ⟨gB, 0, none⟩) (k) cB, .int .i64 (101), .int .i64 (1 + v)]) (by simp [results, Try.results56, go_sem, hrc]) rfl ((HMa.out.setRun 101).done (HRa.out.set (by omega)) (by omega) (by omega) (by omega) (by omega))
          have c1 : ((x : Int) == 1) = false := by simp; omega
          by_cases h2 : x = 2
          · subst h2
            clear h0 h1
            have hrs := HM9.out.res.free
            have hrc := HM9.out.res.cell
            have hbx := HM9.out.box.cell
            have hbf := HM9.out.box.free
            have hne1 : w.heap.size ≠ g := by have := HM9.out.hA; omega
            go_wp2_with (at_builtin; refine wpList_pushI elInt rfl (.tmp 85) (.tmp 86) (by rfl) (f := fun i => if i = j then (-1 : Int) else f i) (HM9.out.A.congr (fun i hi => by rw [if_neg (by omega)])) (by rfl) (by rfl) (by simp) (by omega) ?_; intro g' c' wa HA hgr hd; have hbx2 := (HM9.out.box.kept hgr (by have := HM9.out.nA; omega)).cell; have hbf2 := (HM9.out.box.kept hgr (by have := HM9.out.nA; omega)).free; have hrs2 := (HM9.out.res.kept hgr (by have := HM9.out.hA; omega)).free; have hrc2 := (HM9.out.res.kept hgr (by have := HM9.out.hA; omega)).cell; have HMa := Lib.hid (HM9.out.pushA HA hgr hd); have HRa := Lib.hid (HR9.out.kept hgr (by have := HM9.out.hA; omega)); clear HA hgr hd)
            exact bodyPost_ret (v := .agg #[.slice (some ⟨g', 0, none⟩) (j + 1) c', .slice (some ⟨gB, 0, none⟩) k cB, .int .i64 (2 + (u : Int)), .int .i64 (1 + v)]) (by simp [results, Try.results56, go_sem, hrc2]) rfl (HMa.out.done (HRa.out.set (by omega)) (by omega) (by omega) (by omega) (by omega))
          have c2 : ((x : Int) == 2) = false := by simp; omega
          clear h0 h1 h2
          have hrs := HM9.out.res.free
          have hrc := HM9.out.res.cell
          have hxc := HM9.out.box.cell
          go_wp2_with fail
          exact bodyPost_ret (v := .agg #[.slice (some ⟨g, 0, none⟩) (j) c, .slice (some ⟨gB, 0, none⟩) (k) cB, .int .i64 (2 + (u : Int)), .int .i64 (1 + v)]) (by simp [results, Try.results56, go_sem, hrc]) rfl (HM9.out.done HR9.out (by omega) (by omega) (by omega) (by omega))

/-- the bounds of a drawn single line -/
structure SgL (x : Sg) : Prop where
  na : x.na ≤ 5
  nb : x.nb ≤ 5
  run : 0 ≤ x.run ∧ x.run ≤ 101
  head : 0 ≤ x.head ∧ x.head ≤ 102
/-- what a draw of a single line alone gives -/
def DrS (w : World) (e : Ending) (w' : World) : Prop := ∃ v x, e = .returned v ∧ SgF w.heap.size w' v x ∧ SgL x ∧ Below w.heap.size w w'
theorem SgF.setOther {base : Nat} {w : World} {v : Value} {x : Sg} (h : SgF base w v x) {a : Addr} (ha : a.block < base) (u : Value) : SgF base (w.setCell a u) v x := by
  obtain ⟨ga, ca, gb, cb, e, h3, h4, h5, h1, h2⟩ := h
  exact ⟨ga, ca, gb, cb, e, h3, h4, h5, h1.setOther (by omega) _, h2.setOther (by omega) _⟩
theorem SgF.mono {base base' : Nat} {w : World} {v : Value} {x : Sg} (h : SgF base w v x) (hb : base' ≤ base) : SgF base' w v x := by
  obtain ⟨ga, ca, gb, cb, e, h3, h4, h5, h1, h2⟩ := h
  exact ⟨ga, ca, gb, cb, e, by omega, by omega, h5, h1, h2⟩
theorem SgF.grown {base R : Nat} {w w' : World} {v : Value} {x : Sg} (h : SgF base w v x) (hg : w.grownBy w' (some R)) (hR : R < base) : SgF base w' v x := by
  obtain ⟨ga, ca, gb, cb, e, h3, h4, h5, h1, h2⟩ := h
  exact ⟨ga, ca, gb, cb, e, h3, h4, h5, h1.picked hg (by omega), h2.picked hg (by omega)⟩

set_option maxHeartbeats 1000000 in
theorem drawMany_any (ao : Option Addr) (n c : Nat) (w : World) (hnc : n ≤ c) (hn : n ≤ 9223372036854775807) (hB : BSl w ao n) :
    Calls Try.prog 15 #[.slice ao n c] w (DrS w) := by
  have hbb : ∀ a, Below w.heap.size w (w.alloc a) := fun a => below_all w a
  have HBS := Lib.hid (fun a => hB.keep (hbb a))
  have HBB := Lib.hid hbb
  clear hB hbb
  go_enter Try.func15, Try.ntmps15
  go_wp2_with fail
  refine (open_any ao n c _ hn hnc (HBS.out _)).mono ?_
  rintro e w1 ⟨R, rfl, hR, hr1, hb1⟩
  rw [World.size_alloc] at hR hb1
  have hbx := Lib.hid ((Bx.new w _ _).below hb1 (by omega))
  have HB1 := Lib.hid hb1
  have HR1 := Lib.hid hr1
  have hz1 : w.heap.size + 1 ≤ w1.heap.size := by have := hb1.size; simpa using this
  clear hb1 hr1
  go_wp2_with fail
  refine (l92Single_any R 0 _ (by omega) HR1.out).mono ?_
  rintro e w2 ⟨v, x, rfl, hF, hna, hnb, hrh, hr2, hg2⟩
  have HF := Lib.hid hF
  have HL : Hid (SgL x) := ⟨hna, hnb, ⟨hrh.1, hrh.2.1⟩, hrh.2.2⟩
  have hb2 := (HBB.out _).trans (HB1.out.mono (by omega))
  have HB2 := Lib.hid (hb2.trans (below_of_grown hg2 (by omega) (by omega)))
  have hbx2 := hbx.out.kept hg2 (by omega)
  have hxc := hbx2.cell
  have hxf := hbx2.free
  obtain ⟨ga, ca, gb, cb, rfl, _⟩ := hF
  clear hg2 hr2 hna hnb hrh hb2 hbx2
  go_wp2_with fail
  exact bodyPost_ret (v := .agg #[.slice (some ⟨ga, 0, none⟩) x.na ca, .slice (some ⟨gb, 0, none⟩) x.nb cb, .int .i64 x.run, .int .i64 x.head]) (by simp [results, Try.results15, go_sem, hxc]) rfl ⟨_, x, rfl, (((((HF.out.mono (base' := w.heap.size + 1) (by omega)).setOther (by dsimp only; omega) _).setOther (by dsimp only; omega) _).setOther (by dsimp only; omega) _).setOther (by dsimp only; omega) _).mono (by omega), HL.out, (((HB2.out.setCell (by dsimp only; omega) _).setCell (by dsimp only; omega) _).setCell (by dsimp only; omega) _).setCell (by dsimp only; omega) _⟩

set_option maxHeartbeats 1000000 in
theorem drawFirst_any (ao : Option Addr) (n c : Nat) (w : World) (hnc : n ≤ c) (hn : n ≤ 9223372036854775807) (hB : BSl w ao n) :
    Calls Try.prog 23 #[.slice ao n c] w (DrS w) := by
  have hbb : ∀ a, Below w.heap.size w (w.alloc a) := fun a => below_all w a
  have HBS := Lib.hid (fun a => hB.keep (hbb a))
  have HBB := Lib.hid hbb
  clear hB hbb
  go_enter Try.func23, Try.ntmps23
  go_wp2_with fail
  refine (open_any ao n c _ hn hnc (HBS.out _)).mono ?_
  rintro e w1 ⟨R, rfl, hR, hr1, hb1⟩
  rw [World.size_alloc] at hR hb1
  have hbx := Lib.hid ((Bx.new w _ _).below hb1 (by omega))
  have HB1 := Lib.hid hb1
  have HR1 := Lib.hid hr1
  have hz1 : w.heap.size + 1 ≤ w1.heap.size := by have := hb1.size; simpa using this
  clear hb1 hr1
  go_wp2_with fail
  refine (l92Single_any R 0 _ (by omega) HR1.out).mono ?_
  rintro e w2 ⟨v, x, rfl, hF, hna, hnb, hrh, hr2, hg2⟩
  have HF := Lib.hid hF
  have HL : Hid (SgL x) := ⟨hna, hnb, ⟨hrh.1, hrh.2.1⟩, hrh.2.2⟩
  have hb2 := (HBB.out _).trans (HB1.out.mono (by omega))
  have HB2 := Lib.hid (hb2.trans (below_of_grown hg2 (by omega) (by omega)))
  have hbx2 := hbx.out.kept hg2 (by omega)
  have hxc := hbx2.cell
  have hxf := hbx2.free
  obtain ⟨ga, ca, gb, cb, rfl, _⟩ := hF
  clear hg2 hr2 hna hnb hrh hb2 hbx2
  go_wp2_with fail
  exact bodyPost_ret (v := .agg #[.slice (some ⟨ga, 0, none⟩) x.na ca, .slice (some ⟨gb, 0, none⟩) x.nb cb, .int .i64 x.run, .int .i64 x.head]) (by simp [results, Try.results23, go_sem, hxc]) rfl ⟨_, x, rfl, (((((HF.out.mono (base' := w.heap.size + 1) (by omega)).setOther (by dsimp only; omega) _).setOther (by dsimp only; omega) _).setOther (by dsimp only; omega) _).setOther (by dsimp only; omega) _).mono (by omega), HL.out, (((HB2.out.setCell (by dsimp only; omega) _).setCell (by dsimp only; omega) _).setCell (by dsimp only; omega) _).setCell (by dsimp only; omega) _⟩

set_option maxHeartbeats 1000000 in
theorem drawTurn_any (ao : Option Addr) (n c : Nat) (w : World) (hnc : n ≤ c) (hn : n ≤ 9223372036854775807) (hB : BSl w ao n) :
    Calls Try.prog 30 #[.slice ao n c] w (DrS w) := by
  have hbb : ∀ a, Below w.heap.size w (w.alloc a) := fun a => below_all w a
  have HBS := Lib.hid (fun a => hB.keep (hbb a))
  have HBB := Lib.hid hbb
  clear hB hbb
  go_enter Try.func30, Try.ntmps30
  go_wp2_with fail
  refine (open_any ao n c _ hn hnc (HBS.out _)).mono ?_
  rintro e w1 ⟨R, rfl, hR, hr1, hb1⟩
  rw [World.size_alloc] at hR hb1
  have hbx := Lib.hid ((Bx.new w _ _).below hb1 (by omega))
  have HB1 := Lib.hid hb1
  have HR1 := Lib.hid hr1
  have hz1 : w.heap.size + 1 ≤ w1.heap.size := by have := hb1.size; simpa using this
  clear hb1 hr1
  go_wp2_with fail
  refine (l92Single_any R 0 _ (by omega) HR1.out).mono ?_
  rintro e w2 ⟨v, x, rfl, hF, hna, hnb, hrh, hr2, hg2⟩
  have HF := Lib.hid hF
  have HL : Hid (SgL x) := ⟨hna, hnb, ⟨hrh.1, hrh.2.1⟩, hrh.2.2⟩
  have hb2 := (HBB.out _).trans (HB1.out.mono (by omega))
  have HB2 := Lib.hid (hb2.trans (below_of_grown hg2 (by omega) (by omega)))
  have hbx2 := hbx.out.kept hg2 (by omega)
  have hxc := hbx2.cell
  have hxf := hbx2.free
  obtain ⟨ga, ca, gb, cb, rfl, _⟩ := hF
  clear hg2 hr2 hna hnb hrh hb2 hbx2
  go_wp2_with fail
  exact bodyPost_ret (v := .agg #[.slice (some ⟨ga, 0, none⟩) x.na ca, .slice (some ⟨gb, 0, none⟩) x.nb cb, .int .i64 x.run, .int .i64 x.head]) (by simp [results, Try.results30, go_sem, hxc]) rfl ⟨_, x, rfl, (((((HF.out.mono (base' := w.heap.size + 1) (by omega)).setOther (by dsimp only; omega) _).setOther (by dsimp only; omega) _).setOther (by dsimp only; omega) _).setOther (by dsimp only; omega) _).mono (by omega), HL.out, (((HB2.out.setCell (by dsimp only; omega) _).setCell (by dsimp only; omega) _).setCell (by dsimp only; omega) _).setCell (by dsimp only; omega) _⟩

set_option maxHeartbeats 1000000 in
theorem drawSoon_any (ao : Option Addr) (n c : Nat) (w : World) (hnc : n ≤ c) (hn : n ≤ 9223372036854775807) (hB : BSl w ao n) :
    Calls Try.prog 42 #[.slice ao n c] w (DrS w) := by
  have hbb : ∀ a, Below w.heap.size w (w.alloc a) := fun a => below_all w a
  have HBS := Lib.hid (fun a => hB.keep (hbb a))
  have HBB := Lib.hid hbb
  clear hB hbb
  go_enter Try.func42, Try.ntmps42
  go_wp2_with fail
  refine (open_any ao n c _ hn hnc (HBS.out _)).mono ?_
  rintro e w1 ⟨R, rfl, hR, hr1, hb1⟩
  rw [World.size_alloc] at hR hb1
  have hbx := Lib.hid ((Bx.new w _ _).below hb1 (by omega))
  have HB1 := Lib.hid hb1
  have HR1 := Lib.hid hr1
  have hz1 : w.heap.size + 1 ≤ w1.heap.size := by have := hb1.size; simpa using this
  clear hb1 hr1
  go_wp2_with fail
  refine (l92Single_any R 0 _ (by omega) HR1.out).mono ?_
  rintro e w2 ⟨v, x, rfl, hF, hna, hnb, hrh, hr2, hg2⟩
  have HF := Lib.hid hF
  have HL : Hid (SgL x) := ⟨hna, hnb, ⟨hrh.1, hrh.2.1⟩, hrh.2.2⟩
  have hb2 := (HBB.out _).trans (HB1.out.mono (by omega))
  have HB2 := Lib.hid (hb2.trans (below_of_grown hg2 (by omega) (by omega)))
  have hbx2 := hbx.out.kept hg2 (by omega)
  have hxc := hbx2.cell
  have hxf := hbx2.free
  obtain ⟨ga, ca, gb, cb, rfl, _⟩ := hF
  clear hg2 hr2 hna hnb hrh hb2 hbx2
  go_wp2_with fail
  exact bodyPost_ret (v := .agg #[.slice (some ⟨ga, 0, none⟩) x.na ca, .slice (some ⟨gb, 0, none⟩) x.nb cb, .int .i64 x.run, .int .i64 x.head]) (by simp [results, Try.results42, go_sem, hxc]) rfl ⟨_, x, rfl, (((((HF.out.mono (base' := w.heap.size + 1) (by omega)).setOther (by dsimp only; omega) _).setOther (by dsimp only; omega) _).setOther (by dsimp only; omega) _).setOther (by dsimp only; omega) _).mono (by omega), HL.out, (((HB2.out.setCell (by dsimp only; omega) _).setCell (by dsimp only; omega) _).setCell (by dsimp only; omega) _).setCell (by dsimp only; omega) _⟩

set_option maxHeartbeats 1000000 in
theorem drawBest_any (ao : Option Addr) (n c : Nat) (w : World) (hnc : n ≤ c) (hn : n ≤ 9223372036854775807) (hB : BSl w ao n) :
    Calls Try.prog 47 #[.slice ao n c] w (DrS w) := by
  have hbb : ∀ a, Below w.heap.size w (w.alloc a) := fun a => below_all w a
  have HBS := Lib.hid (fun a => hB.keep (hbb a))
  have HBB := Lib.hid hbb
  clear hB hbb
  go_enter Try.func47, Try.ntmps47
  go_wp2_with fail
  refine (open_any ao n c _ hn hnc (HBS.out _)).mono ?_
  rintro e w1 ⟨R, rfl, hR, hr1, hb1⟩
  rw [World.size_alloc] at hR hb1
  have hbx := Lib.hid ((Bx.new w _ _).below hb1 (by omega))
  have HB1 := Lib.hid hb1
  have HR1 := Lib.hid hr1
  have hz1 : w.heap.size + 1 ≤ w1.heap.size := by have := hb1.size; simpa using this
  clear hb1 hr1
  go_wp2_with fail
  refine (l92Single_any R 0 _ (by omega) HR1.out).mono ?_
  rintro e w2 ⟨v, x, rfl, hF, hna, hnb, hrh, hr2, hg2⟩
  have HF := Lib.hid hF
  have HL : Hid (SgL x) := ⟨hna, hnb, ⟨hrh.1, hrh.2.1⟩, hrh.2.2⟩
  have hb2 := (HBB.out _).trans (HB1.out.mono (by omega))
  have HB2 := Lib.hid (hb2.trans (below_of_grown hg2 (by omega) (by omega)))
  have hbx2 := hbx.out.kept hg2 (by omega)
  have hxc := hbx2.cell
  have hxf := hbx2.free
  obtain ⟨ga, ca, gb, cb, rfl, _⟩ := hF
  clear hg2 hr2 hna hnb hrh hb2 hbx2
  go_wp2_with fail
  exact bodyPost_ret (v := .agg #[.slice (some ⟨ga, 0, none⟩) x.na ca, .slice (some ⟨gb, 0, none⟩) x.nb cb, .int .i64 x.run, .int .i64 x.head]) (by simp [results, Try.results47, go_sem, hxc]) rfl ⟨_, x, rfl, (((((HF.out.mono (base' := w.heap.size + 1) (by omega)).setOther (by dsimp only; omega) _).setOther (by dsimp only; omega) _).setOther (by dsimp only; omega) _).setOther (by dsimp only; omega) _).mono (by omega), HL.out, (((HB2.out.setCell (by dsimp only; omega) _).setCell (by dsimp only; omega) _).setCell (by dsimp only; omega) _).setCell (by dsimp only; omega) _⟩
end Go.Proofs.Ytnhkijfibiffnaa
