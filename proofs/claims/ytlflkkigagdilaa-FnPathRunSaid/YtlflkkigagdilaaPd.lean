/-
  Walks of the draws of paths: shapes and bounds alone.
-/
import Derived.Test.YtlflkkigagdilaaPc
import Derived.Deep.DrawnRows
import Derived.StillTailTactics
namespace Go.Proofs.Ytlflkkigagdilaa
open Go.RowKit
attribute [local go_sem ↓] Go.wp_at_zero Go.wp_at_succ

/-- what l91Path has made so far -/
structure PaM (w0 : World) (R : Nat) (wr : World) (gI jI cI gO jO cO : Nat) (fI fO : Nat → Int) (vO : Value) : Prop where
  res : Bx wr w0.heap.size 37 #[.slice none 0 0, .slice none 0 0]
  box : Bx wr (w0.heap.size + 1 + 1 + 1) 37 #[.slice (some ⟨gI, 0, none⟩) jI cI, vO]
  I : Own wr gI cI jI 1 3 (fun i => .int .i64 (fI i))
  O : Own wr gO cO jO 1 3 (fun i => .int .i64 (fO i))
  hI : w0.heap.size < gI
  hO : w0.heap.size < gO
  nI : gI ≠ w0.heap.size + 1 + 1 + 1
  nO : gO ≠ w0.heap.size + 1 + 1 + 1
  nIO : gI ≠ gO
  lR : R < w0.heap.size
  gr : w0.grownBy wr (some R)
section
variable {w0 wr wa w' : World} {R gI jI cI gO jO cO : Nat} {fI fO : Nat → Int} {vO : Value}
theorem PaM.pick (h : PaM w0 R wr gI jI cI gO jO cO fI fO vO) (hg : wr.grownBy w' (some R)) : PaM w0 R w' gI jI cI gO jO cO fI fO vO := by
  have := h.lR
  have := h.hI
  have := h.hO
  exact ⟨h.res.kept hg (by omega), h.box.kept hg (by omega), h.I.picked hg (by omega), h.O.picked hg (by omega), h.hI, h.hO, h.nI, h.nO, h.nIO, h.lR, grownBy_trans h.gr hg⟩
theorem PaM.drewN (h : PaM w0 R wr gI jI cI gO jO cO fI fO vO) (q : Nat) : PaM w0 R (wr.drewN q) gI jI cI gO jO cO fI fO vO := h.pick (grownBy_drewN _ _ _)
theorem PaM.drew (h : PaM w0 R wr gI jI cI gO jO cO fI fO vO) : PaM w0 R wr.drew gI jI cI gO jO cO fI fO vO := h.drewN 1
theorem PaM.alloc (h : PaM w0 R wr gI jI cI gO jO cO fI fO vO) (o : Obj) : PaM w0 R (wr.alloc o) gI jI cI gO jO cO fI fO vO := h.pick (World.grownBy_alloc _ _ _)
theorem PaM.pushI (h : PaM w0 R wr gI jI cI gO jO cO fI fO vO) {g c : Nat} {f : Nat → Int} (hA : Own wa g c (jI + 1) 1 3 (fun i => .int .i64 (f i))) (hg : wr.grownBy wa (some gI)) (hd : (g = gI ∧ c = cI) ∨ wr.heap.size < g) :
    PaM w0 R (wa.setCell ⟨w0.heap.size + 1 + 1 + 1, 0, none⟩ (.slice (some ⟨g, 0, none⟩) (jI + 1) c)) g (jI + 1) c gO jO cO f fO vO := by
  have h1 := h.nI
  have h2 := h.nO
  have h3 := h.nIO
  have h4 := h.hI
  have h5 := h.hO
  have h6 := h.box.lt
  have h7 := h.O.lt
  have h8 := h.gr.size
  exact ⟨(h.res.kept hg (by omega)).setOther (by dsimp only; omega) _, (h.box.kept hg (by omega)).set 0 _, hA.setOther (by dsimp only; omega) _, (h.O.kept hg (by simp; omega)).setOther (by dsimp only; omega) _, by omega, h.hO, by omega, h.nO, by omega, h.lR,
    grow_new (grow_new h.gr hg (by omega)) (grownBy_setCell _ _ _ _) (by omega)⟩
theorem PaM.pushO (h : PaM w0 R wr gI jI cI gO jO cO fI fO vO) {g c : Nat} {f : Nat → Int} (hA : Own wa g c (jO + 1) 1 3 (fun i => .int .i64 (f i))) (hg : wr.grownBy wa (some gO)) (hd : (g = gO ∧ c = cO) ∨ wr.heap.size < g) :
    PaM w0 R (wa.setCell ⟨w0.heap.size + 1 + 1 + 1, 1, none⟩ (.slice (some ⟨g, 0, none⟩) (jO + 1) c)) gI jI cI g (jO + 1) c fI f (.slice (some ⟨g, 0, none⟩) (jO + 1) c) := by
  have h1 := h.nI
  have h2 := h.nO
  have h3 := h.nIO
  have h4 := h.hI
  have h5 := h.hO
  have h6 := h.box.lt
  have h7 := h.I.lt
  have h8 := h.gr.size
  exact ⟨(h.res.kept hg (by omega)).setOther (by dsimp only; omega) _, (h.box.kept hg (by omega)).set 1 _, (h.I.kept hg (by simp; omega)).setOther (by dsimp only; omega) _, hA.setOther (by dsimp only; omega) _, h.hI, by omega, h.nI, by omega, by omega, h.lR,
    grow_new (grow_new h.gr hg (by omega)) (grownBy_setCell _ _ _ _) (by omega)⟩
theorem PaM.putO (h : PaM w0 R wr gI jI cI gO jO cO fI fO vO) (k : Nat) (v : Int) : PaM w0 R (wr.setCell ⟨gO, k, none⟩ (.int .i64 v)) gI jI cI gO jO cO fI (fun i => if i = k then v else fO i) vO := by
  have h2 := h.nO
  have h3 := h.nIO
  have h5 := h.hO
  exact ⟨h.res.setOther (by dsimp only; omega) _, h.box.setOther (by dsimp only; omega) _, h.I.setOther (by dsimp only; omega) _, (h.O.set k _).congr fun i _ => by split <;> rfl, h.hI, h.hO, h.nI, h.nO, h.nIO, h.lR, grow_new h.gr (grownBy_setCell _ _ _ _) (by omega)⟩
theorem PaM.putI (h : PaM w0 R wr gI jI cI gO jO cO fI fO vO) (k : Nat) (v : Int) : PaM w0 R (wr.setCell ⟨gI, k, none⟩ (.int .i64 v)) gI jI cI gO jO cO (fun i => if i = k then v else fI i) fO vO := by
  have h2 := h.nI
  have h3 := h.nIO
  have h5 := h.hI
  exact ⟨h.res.setOther (by dsimp only; omega) _, h.box.setOther (by dsimp only; omega) _, (h.I.set k _).congr fun i _ => by split <;> rfl, h.O.setOther (by dsimp only; omega) _, h.hI, h.hO, h.nI, h.nO, h.nIO, h.lR, grow_new h.gr (grownBy_setCell _ _ _ _) (by omega)⟩
theorem PaM.setV (h : PaM w0 R wr gI jI cI gO jO cO fI fO vO) (v : Value) : PaM w0 R (wr.setCell ⟨w0.heap.size + 1 + 1 + 1, 1, none⟩ v) gI jI cI gO jO cO fI fO v := by
  have h1 := h.nI
  have h2 := h.nO
  exact ⟨h.res.setOther (by dsimp only; omega) _, h.box.set 1 _, h.I.setOther (by dsimp only; omega) _, h.O.setOther (by dsimp only; omega) _, h.hI, h.hO, h.nI, h.nO, h.nIO, h.lR, grow_new h.gr (grownBy_setCell _ _ _ _) (by omega)⟩
end
/-- a path in new memory -/
def PtD (base : Nat) (w : World) (v : Value) (p : Pt) : Prop :=
  ∃ bi oi ci bo oo co, v = .agg #[.slice (some ⟨bi, oi, none⟩) p.ni ci, .slice (some ⟨bo, oo, none⟩) p.no co] ∧ base ≤ bi ∧ base ≤ bo ∧ IC w bi oi p.ni p.I ∧ IC w bo oo p.no p.O
theorem PtD.reads {base : Nat} {w : World} {v : Value} {p : Pt} (h : PtD base w v p) : PtV w v p := by
  obtain ⟨bi, oi, ci, bo, oo, co, e, _, _, h1, h2⟩ := h
  exact ⟨bi, oi, ci, bo, oo, co, e, h1, h2⟩
theorem ic_other {w : World} {b off n : Nat} {f : Nat → Int} (h : IC w b off n f) {a : Addr} (ha : b ≠ a.block) (v : Value) : IC (w.setCell a v) b off n f := fun k hk => by
  have h1 := h k hk
  rw [← h1]
  exact World.cell?_of_block (w := w) (Below.heap_setCell _ _ _ _ ha)
theorem PtD.setOther {base : Nat} {w : World} {v : Value} {p : Pt} (h : PtD base w v p) {a : Addr} (ha : a.block < base) (u : Value) : PtD base (w.setCell a u) v p := by
  obtain ⟨bi, oi, ci, bo, oo, co, e, h1, h2, h3, h4⟩ := h
  exact ⟨bi, oi, ci, bo, oo, co, e, h1, h2, ic_other h3 (by omega) _, ic_other h4 (by omega) _⟩
theorem PtD.keep {base : Nat} {w w' : World} {v : Value} {p : Pt} (h : PtD base w v p) (hb : Below w.heap.size w w') : PtD base w' v p := by
  obtain ⟨bi, oi, ci, bo, oo, co, e, h1, h2, h3, h4⟩ := h
  exact ⟨bi, oi, ci, bo, oo, co, e, h1, h2, h3.keep hb, h4.keep hb⟩
theorem PtD.mono {base base' : Nat} {w : World} {v : Value} {p : Pt} (h : PtD base w v p) (hb : base' ≤ base) : PtD base' w v p := by
  obtain ⟨bi, oi, ci, bo, oo, co, e, h1, h2, h3, h4⟩ := h
  exact ⟨bi, oi, ci, bo, oo, co, e, by omega, by omega, h3, h4⟩
/-- a drawn path over n sections -/
def DPt (R M n : Nat) (w : World) (e : Ending) (w' : World) : Prop :=
  ∃ v p, e = .returned v ∧ PtD w.heap.size w' v p ∧ p.ni = n ∧ p.no ≤ n ∧ RdL w' R M ∧ w.grownBy w' (some R)
theorem PaM.done {w0 wr : World} {R gI jI cI gO jO cO : Nat} {fI fO : Nat → Int} {vO : Value} (h : PaM w0 R wr gI jI cI gO jO cO fI fO vO) {M M' oO nO cO' : Nat} {g : Nat → Int} (hr : RdL wr R M) (hM : M ≤ M') (hO : IC wr gO oO nO g) (hn : nO ≤ jI) {v0 v1 : Value} :
    DPt R M' jI w0 (.returned (.agg #[.slice (some ⟨gI, 0, none⟩) jI cI, .slice (some ⟨gO, oO, none⟩) nO cO'])) ((wr.setCell ⟨w0.heap.size, 0, none⟩ v0).setCell ⟨w0.heap.size, 1, none⟩ v1) := by
  have h1 := h.hI
  have h2 := h.hO
  have h3 := h.lR
  refine ⟨_, ⟨fI, jI, g, nO⟩, rfl, ⟨gI, 0, cI, gO, oO, cO', rfl, by omega, by omega, ic_other (ic_other (IC.of_own h.I) (by dsimp only; omega) _) (by dsimp only; omega) _, ic_other (ic_other hO (by dsimp only; omega) _) (by dsimp only; omega) _⟩, rfl, hn, ((hr.mono hM).set (by omega)).set (by omega), ?_⟩
  exact grow_new (grow_new h.gr (grownBy_setCell _ _ _ _) (Nat.le_refl _)) (grownBy_setCell _ _ _ _) (Nat.le_refl _)
theorem DPt.alloc {R M n : Nat} {w w' : World} {e : Ending} (h : DPt R M n w e w') (o : Obj) : DPt R M n w e (w'.alloc o) := by
  obtain ⟨v, p, h1, h2, h3, h4, h5, h6⟩ := h
  exact ⟨v, p, h1, h2.keep (below_all _ _), h3, h4, h5.alloc _, grownBy_trans h6 (World.grownBy_alloc _ _ _)⟩

def tw2 (y : Nat) : Int := if y = 0 then 2000 else 2001
theorem tw2_at {y : Nat} (h : y < 2) : (#[Value.int .i64 2000, .int .i64 2001] : Array Value)[y]? = some (.int .i64 (tw2 y)) := by
  have : y = 0 ∨ y = 1 := by omega
  rcases this with rfl | rfl <;> rfl
theorem tw2_get {y : Nat} (h : y < [Value.int .i64 2000, .int .i64 2001].length) : [Value.int .i64 2000, .int .i64 2001][y] = .int .i64 (tw2 y) := by
  have : y = 0 ∨ y = 1 := by simp at h; omega
  rcases this with rfl | rfl <;> rfl
theorem ic_tail1 {w : World} {g cap n : Nat} {t : TypeId} {f : Nat → Int} (h : Own w g cap n 1 t (fun i => .int .i64 (f i))) : IC w g 1 (n - 1) (fun i => f (i + 1)) := fun k hk => by
  rw [show 1 + k = k + 1 from by omega]
  exact h.cell1 (by omega)
set_option linter.unusedSimpArgs false in
set_option maxRecDepth 100000 in
set_option maxHeartbeats 4000000 in
theorem l91Path_any (R m n : Nat) (w : World) (hm : m ≤ 100000) (hn1 : 1 ≤ n) (hn2 : n ≤ 5) (hr : RdL w R m) :
    Calls Try.prog 47 #[.pointer (some ⟨R, 0, none⟩), .int .i64 n] w (DPt R (m + 20) n w) := by
  have hlR := hr.lt
  have HR0 := Lib.hid hr
  clear hr
  go_enter Try.func47, Try.ntmps47
  go_wp2_with fail
  refine (pickN_any R m 60 _ (by omega) (by omega) (((HR0.out.alloc _).alloc _).alloc2 _ _)).mono ?_
  rintro e w1 ⟨a, rfl, ha, hr1, hg1⟩
  have HR1 := Lib.hid hr1
  have HM1 : Hid (PaM w R w1 (w.heap.size + 1) 0 0 (w.heap.size + 1 + 1) 0 0 (fun _ => 0) (fun _ => 0) (.slice (some ⟨w.heap.size + 1 + 1, 0, none⟩) 0 0)) := PaM.pick ⟨(((Bx.new w _ _).alloc _).alloc _).alloc _, Bx.newAt (by simp), ((own_emptyAt (by simp)).alloc _).alloc _, (own_emptyAt (by simp)).alloc _, by omega, by omega, by omega, by omega, by omega, hlR, (((World.grownBy_alloc _ _ _).trans (World.grownBy_alloc _ _ _)).trans (World.grownBy_alloc _ _ _)).trans (World.grownBy_alloc _ _ _)⟩ hg1
  clear hr1 hg1
  go_wp2_with fail
  go_loopw [6, 7] (fun st si wr => ∃ (k gI cI gO cO q : Nat) (fI fO : Nat → Int), k ≤ n ∧ si = .int .i64 k ∧ st = .int .i64 q ∧ q ≤ 60 + 20 * k ∧ Hid (PaM w R wr gI k cI gO k cO fI fO (.slice (some ⟨gO, 0, none⟩) k cO)) ∧ Hid (RdL wr R (m + 1 + 3 * k))) (fun _ si _ => n - (intOf si).toNat)
  case atStart => exact ⟨0, _, _, _, _, a, _, _, Nat.zero_le _, rfl, rfl, by omega, HM1, HR1⟩
  case round =>
    obtain ⟨k, gI, cI, gO, cO, q, fI, fO, hk, rfl, rfl, hq, HM, HR⟩ := hrel
    by_cases hlt : k < n
    · go_wp2_with fail
      refine (pickN_any R (m + 1 + 3 * k) 3 _ (by omega) (by omega) HR.out).mono ?_
      rintro e w2 ⟨x, rfl, hx, hr2, hg2⟩
      have HR2 := Lib.hid hr2
      have HM2 := Lib.hid (HM.out.pick hg2)
      clear hr2 hg2
      go_wp2_with fail
      refine (pickN_any R (m + 1 + 3 * k + 1) 4 _ (by omega) (by omega) HR2.out).mono ?_
      rintro e w3 ⟨y, rfl, hy, hr3, hg3⟩
      have HR3 := Lib.hid hr3
      have HM3 := Lib.hid (HM2.out.pick hg3)
      clear hr3 hg3
      have hxy : x * y ≤ 6 := Nat.mul_le_mul (show x ≤ 2 by omega) (show y ≤ 3 by omega)
      have hw1 : IntKind.i64.wrap ((x : Int) * (y : Int)) = ((x * y : Nat) : Int) := by rw [← Int.natCast_mul]; exact IntWalk.i64_in _ (by omega)
      have hbx := HM3.out.box.cell
      generalize hz : x * y = z at hxy hw1
      clear hz
      go_wp2_with (at_builtin; refine wpList_pushI elInt rfl (.tmp 26) (.tmp 28) (by rfl) (f := fun i => if i = k then ((q : Int) + z) else fI i) (HM3.out.I.congr (fun i hi => by rw [if_neg (by omega)])) (by rfl) (by rfl) (by simp) (by omega) ?_; intro g' c' wa HA hgr hd; have hbx2 := (HM3.out.box.kept hgr (by have := HM3.out.nI; omega)).cell; have hbf2 := (HM3.out.box.kept hgr (by have := HM3.out.nI; omega)).free; have HMa := Lib.hid (HM3.out.pushI HA hgr hd); have HRa := Lib.hid ((HR3.out.kept hgr (by have := HM3.out.hI; omega)).set (g := w.heap.size + 1 + 1 + 1) (o := 0) (v := .slice (some ⟨g', 0, none⟩) (k + 1) c') (by omega)); clear HA hgr hd)
      refine (pickN_any R (m + 1 + 3 * k + 1 + 1) 9 _ (by omega) (by omega) HRa.out).mono ?_
      rintro e wb ⟨v, rfl, hv, hrb, hgb⟩
      have HMb := Lib.hid (HMa.out.pick hgb)
      have HRb := Lib.hid hrb
      clear hrb hgb
      clear hbx hbx2 hbf2
      have hbx := HMb.out.box.cell
      go_wp2_with (at_builtin; refine wpList_pushI elInt rfl (.tmp 37) (.tmp 39) (by rfl) (f := fun i => if i = k then ((q : Int) + z + 1 + v) else fO i) (HMb.out.O.congr (fun i hi => by rw [if_neg (by omega)])) (by rfl) (by rfl) (by simp) (by omega) ?_; intro g2 c2 wd HA hgr hd; have hbx2 := (HMb.out.box.kept hgr (by have := HMb.out.nO; omega)).cell; have hbf2 := (HMb.out.box.kept hgr (by have := HMb.out.nO; omega)).free; have HMd := Lib.hid (HMb.out.pushO HA hgr hd); have HRd := Lib.hid ((HRb.out.kept hgr (by have := HMb.out.hO; omega)).set (g := w.heap.size + 1 + 1 + 1) (o := 1) (v := .slice (some ⟨g2, 0, none⟩) (k + 1) c2) (by omega)); clear HA hgr hd)
      go_roundw
      case rel => exact ⟨k + 1, _, _, _, _, q + z + 1 + v, _, _, by omega, by go_num, by go_num, by omega, HMd, by rw [show m + 1 + 3 * (k + 1) = m + 1 + 3 * k + 1 + 1 + 1 from by omega]; exact HRd⟩
      case measure => simp [intOf]; omega
    · obtain rfl : k = n := by omega
      have hk0 : (0 : Int) < k := by omega
      go_wp2_with fail
      refine (pickN_any R (m + 1 + 3 * k) 40 _ (by omega) (by omega) HR.out).mono ?_
      rintro e w2 ⟨x, rfl, hx, hr2, hg2⟩
      have HR2 := Lib.hid hr2
      have HM2 := Lib.hid (HM.out.pick hg2)
      have hz2 := hg2.size
      clear hr2 hg2 HM HR HM1 HR1
      have hbx := HM2.out.box.cell
      have hbf := HM2.out.box.free
      have hIk := HM2.out.I.cell1 (i := 0) (by omega)
      have hOk := HM2.out.O.cell1 (i := 0) (by omega)
      have hOf := HM2.out.O.free
      have hIf := HM2.out.I.free
      have hrc := HM2.out.res.cell
      have hrf := HM2.out.res.free
      have n1 := HM2.out.nI
      have n2 := HM2.out.nO
      have n3 := HM2.out.nIO
      have n4 := HM2.out.hI
      have n5 := HM2.out.hO
      by_cases h0 : x = 0
      · subst h0
        have n3' : gO ≠ gI := fun e => n3 e.symm
        have n2' : w.heap.size + 1 + 1 + 1 ≠ gO := fun e => n2 e.symm
        have n1' : w.heap.size + 1 + 1 + 1 ≠ gI := fun e => n1 e.symm
        have hOf0 := hOf 0
        go_wp2_with fail
        refine wp_region_held_drew (S := (fun w' => w'.cell? ⟨w.heap.size + 1 + 1 + 1, 0, none⟩ = some (.slice (some ⟨gI, 0, none⟩) k cI) ∧ w'.cell? ⟨w.heap.size + 1 + 1 + 1, 1, none⟩ = some (.slice (some ⟨gO, 0, none⟩) k cO) ∧ w'.cell? ⟨gI, 0, none⟩ = some (.int .i64 (fI 0)))) (by kernel_rfl) ?_ (fun hHeld => ?_)
        · try dsimp only
          go_keep
        refine wpAnyH_take (i := 0) (oi := ?_) (v := ?_) ?_ (by kernel_rfl) (by kernel_rfl) (by kernel_rfl) ?_ ?_ (by assumption) ?_
        rotate_left 2
        · simp only [List.getElem?_toArray, List.getElem?_cons_succ, List.getElem?_cons_zero]; rfl
        · exact fun _ _ _ h => h
        · first
            | (refine Or.inr ⟨?_, ?_⟩ <;> rfl)
            | (refine Or.inl ⟨?_, ?_⟩; · rfl
               intro w hSw; (try dsimp only at hSw); go_simp; (try with_reducible rfl); done)
        try simp only [Act.put, List.setIfInBounds_toArray, List.set_cons_zero, List.set_cons_succ]
        refine wpAnyH_take (i := 1) (oi := ?_) (v := ?_) ?_ (by kernel_rfl) (by kernel_rfl) (by kernel_rfl) ?_ ?_ (by assumption) ?_
        rotate_left 2
        · simp only [List.getElem?_toArray, List.getElem?_cons_succ, List.getElem?_cons_zero]; rfl
        · exact fun _ _ _ h => h
        · first
            | (refine Or.inr ⟨?_, ?_⟩ <;> rfl)
            | (refine Or.inl ⟨?_, ?_⟩; · rfl
               intro w hSw; (try dsimp only at hSw); go_simp; (try with_reducible rfl); done)
        try simp only [Act.put, List.setIfInBounds_toArray, List.set_cons_zero, List.set_cons_succ]
        refine wpAnyH_take (i := 2) (oi := ?_) (v := ?_) ?_ (by kernel_rfl) (by kernel_rfl) (by kernel_rfl) ?_ ?_ (by assumption) ?_
        rotate_left 2
        · simp only [List.getElem?_toArray, List.getElem?_cons_succ, List.getElem?_cons_zero]; rfl
        · exact fun _ _ _ h => h
        · first
            | (refine Or.inr ⟨?_, ?_⟩ <;> rfl)
            | (refine Or.inl ⟨?_, ?_⟩; · rfl
               intro w hSw; (try dsimp only at hSw); go_simp; (try with_reducible rfl); done)
        try simp only [Act.put, List.setIfInBounds_toArray, List.set_cons_zero, List.set_cons_succ]
        refine wpAnyH_take (i := 3) (oi := ?_) (v := ?_) ?_ (by kernel_rfl) (by kernel_rfl) (by kernel_rfl) ?_ ?_ (by assumption) ?_
        rotate_left 2
        · simp only [List.getElem?_toArray, List.getElem?_cons_succ, List.getElem?_cons_zero]; rfl
        · exact fun _ _ _ h => h
        · first
            | (refine Or.inr ⟨?_, ?_⟩ <;> rfl)
            | (refine Or.inl ⟨?_, ?_⟩; · rfl
               intro w hSw; (try dsimp only at hSw); go_simp; (try with_reducible rfl); done)
        try simp only [Act.put, List.setIfInBounds_toArray, List.set_cons_zero, List.set_cons_succ]
        refine wpAnyH_take (i := 4) (oi := ?_) (v := ?_) ?_ (by kernel_rfl) (by kernel_rfl) (by kernel_rfl) ?_ ?_ (by assumption) ?_
        rotate_left 2
        · simp only [List.getElem?_toArray, List.getElem?_cons_succ, List.getElem?_cons_zero]; rfl
        · exact fun _ _ _ h => h
        · first
            | (refine Or.inr ⟨?_, ?_⟩ <;> rfl)
            | (refine Or.inl ⟨?_, ?_⟩; · rfl
               intro w hSw; (try dsimp only at hSw); go_simp; (try with_reducible rfl); done)
        try simp only [Act.put, List.setIfInBounds_toArray, List.set_cons_zero, List.set_cons_succ]
        refine wpAnyH_take (i := 5) (oi := ?_) (v := ?_) ?_ (by kernel_rfl) (by kernel_rfl) (by kernel_rfl) ?_ ?_ (by assumption) ?_
        rotate_left 2
        · simp only [List.getElem?_toArray, List.getElem?_cons_succ, List.getElem?_cons_zero]; rfl
        · exact fun _ _ _ h => h
        · first
            | (refine Or.inr ⟨?_, ?_⟩ <;> rfl)
            | (refine Or.inl ⟨?_, ?_⟩; · rfl
               intro w hSw; (try dsimp only at hSw); go_simp; (try with_reducible rfl); done)
        try simp only [Act.put, List.setIfInBounds_toArray, List.set_cons_zero, List.set_cons_succ]
        refine wpAnyH_take (i := 6) (oi := ?_) (v := ?_) ?_ (by kernel_rfl) (by kernel_rfl) (by kernel_rfl) ?_ ?_ (by assumption) ?_
        rotate_left 2
        · simp only [List.getElem?_toArray, List.getElem?_cons_succ, List.getElem?_cons_zero]; rfl
        · exact fun _ _ _ h => h
        · first
            | (refine Or.inr ⟨?_, ?_⟩ <;> rfl)
            | (refine Or.inl ⟨?_, ?_⟩; · rfl
               intro w hSw; (try dsimp only at hSw); go_simp; (try with_reducible rfl); done)
        try simp only [Act.put, List.setIfInBounds_toArray, List.set_cons_zero, List.set_cons_succ]
        refine wpAnyH_ready (rs := [7]) (by kernel_rfl) (by simp) ?_
        refine AllReadyH.cons (o := ?_) ?_ (fun K hK => ?_) AllReadyH.nil
        rotate_left 1
        · simp only [List.getElem?_toArray, List.getElem?_cons_succ, List.getElem?_cons_zero]; rfl
        go_simp
        skip
        refine hK.out _ _ ?_ (fun hHeld => ?_)
        · try dsimp only
          go_keep
        clear hK K
        try simp only [Act.put, List.setIfInBounds_toArray, List.set_cons_zero, List.set_cons_succ]
        refine wpAnyH_done (by kernel_rfl) ?_ _
        go_wp2_with fail
        exact bodyPost_ret (v := .agg #[.slice (some ⟨gI, 0, none⟩) k cI, .slice (some ⟨gO, 0, none⟩) k cO]) (by simp [results, Try.results47, go_sem, hrc]) rfl ((HM2.out.drew.putO 0 (fI 0)).done (HR2.out.drew.set (by omega)) (by omega) (IC.of_own (HM2.out.drew.putO 0 (fI 0)).O) (Nat.le_refl _))
      have x0 : ((x : Int) == 0) = false := by simp; omega
      by_cases h1 : x = 1
      · subst h1
        clear h0
        have hIn := HM2.out.I.cell1 (i := k - 1) (by omega)
        have hkw : IntKind.i64.wrap ((k : Int) - 1) = ((k - 1 : Nat) : Int) := by rw [show ((k : Int) - 1) = ((k - 1 : Nat) : Int) from by omega]; exact IntWalk.i64_in _ (by omega)
        have hIfn := hIf (k - 1)
        go_wp2_with fail
        exact bodyPost_ret (v := .agg #[.slice (some ⟨gI, 0, none⟩) k cI, .slice (some ⟨gO, 0, none⟩) k cO]) (by simp [results, Try.results47, go_sem, hrc]) rfl ((HM2.out.putI (k - 1) (-1)).done (HR2.out.set (by omega)) (by omega) (IC.of_own (HM2.out.putI (k - 1) (-1)).O) (Nat.le_refl _))
      have x1 : ((x : Int) == 1) = false := by simp; omega
      by_cases h2 : x = 2
      · subst h2
        have hkw : IntKind.i64.wrap ((k : Int) - 1) = ((k - 1 : Nat) : Int) := by rw [show ((k : Int) - 1) = ((k - 1 : Nat) : Int) from by omega]; exact IntWalk.i64_in _ (by omega)
        have n2' : w.heap.size + 1 + 1 + 1 ≠ gO := fun e => n2 e.symm
        have hkk : k - 1 < k := by omega
        have hOn := HM2.out.O.cell1 (i := k - 1) (by omega)
        have hOfn := hOf (k - 1)
        have hl2 := HR2.out.lt
        have hb2 := HM2.out.box.lt
        have hr2 := HM2.out.res.lt
        have hg2 := HM2.out.O.lt
        have hne2 : w2.heap.size ≠ R := by omega
        have hAt : ∀ y : Nat, y < 2 → (#[Value.int .i64 2000, .int .i64 2001] : Array Value)[y]? = some (.int .i64 (tw2 y)) := fun y h => tw2_at h
        clear h0 h1 hOf hIf hIk hOk
        go_wp2_with fail
        refine wp_region_held_drew (S := (fun w' => w'.cell? ⟨w.heap.size + 1 + 1 + 1, 0, none⟩ = some (.slice (some ⟨gI, 0, none⟩) k cI) ∧ w'.cell? ⟨w.heap.size + 1 + 1 + 1, 1, none⟩ = some (.slice (some ⟨gO, 0, none⟩) k cO))) (by kernel_rfl) ?_ (fun hHeld => ?_)
        · try dsimp only
          go_keep
        refine wpAnyH_take (i := 0) (oi := ?_) (v := ?_) ?_ (by kernel_rfl) (by kernel_rfl) (by kernel_rfl) ?_ ?_ (by assumption) ?_
        rotate_left 2
        · simp only [List.getElem?_toArray, List.getElem?_cons_succ, List.getElem?_cons_zero]; rfl
        · exact fun _ _ _ h => h
        · first
            | (refine Or.inr ⟨?_, ?_⟩ <;> rfl)
            | (refine Or.inl ⟨?_, ?_⟩; · rfl
               intro w hSw; (try dsimp only at hSw); go_simp; (try with_reducible rfl); done)
        try simp only [Act.put, List.setIfInBounds_toArray, List.set_cons_zero, List.set_cons_succ]
        refine wpAnyH_take (i := 1) (oi := ?_) (v := ?_) ?_ (by kernel_rfl) (by kernel_rfl) (by kernel_rfl) ?_ ?_ (by assumption) ?_
        rotate_left 2
        · simp only [List.getElem?_toArray, List.getElem?_cons_succ, List.getElem?_cons_zero]; rfl
        · exact fun _ _ _ h => h
        · first
            | (refine Or.inr ⟨?_, ?_⟩ <;> rfl)
            | (refine Or.inl ⟨?_, ?_⟩; · rfl
               intro w hSw; (try dsimp only at hSw); go_simp; (try with_reducible rfl); done)
        try simp only [Act.put, List.setIfInBounds_toArray, List.set_cons_zero, List.set_cons_succ]
        refine wpAnyH_take (i := 2) (oi := ?_) (v := ?_) ?_ (by kernel_rfl) (by kernel_rfl) (by kernel_rfl) ?_ ?_ (by assumption) ?_
        rotate_left 2
        · simp only [List.getElem?_toArray, List.getElem?_cons_succ, List.getElem?_cons_zero]; rfl
        · exact fun _ _ _ h => h
        · first
            | (refine Or.inr ⟨?_, ?_⟩ <;> rfl)
            | (refine Or.inl ⟨?_, ?_⟩; · rfl
               intro w hSw; (try dsimp only at hSw); go_simp; (try with_reducible rfl); done)
        try simp only [Act.put, List.setIfInBounds_toArray, List.set_cons_zero, List.set_cons_succ]
        refine wpAnyH_take (i := 3) (oi := ?_) (v := ?_) ?_ (by kernel_rfl) (by kernel_rfl) (by kernel_rfl) ?_ ?_ (by assumption) ?_
        rotate_left 2
        · simp only [List.getElem?_toArray, List.getElem?_cons_succ, List.getElem?_cons_zero]; rfl
        · exact fun _ _ _ h => h
        · first
            | (refine Or.inr ⟨?_, ?_⟩ <;> rfl)
            | (refine Or.inl ⟨?_, ?_⟩; · rfl
               intro w hSw; (try dsimp only at hSw); go_simp; (try with_reducible rfl); done)
        try simp only [Act.put, List.setIfInBounds_toArray, List.set_cons_zero, List.set_cons_succ]
        refine wpAnyH_take (i := 5) (oi := ?_) (v := ?_) ?_ (by kernel_rfl) (by kernel_rfl) (by kernel_rfl) ?_ ?_ (by assumption) ?_
        rotate_left 2
        · simp only [List.getElem?_toArray, List.getElem?_cons_succ, List.getElem?_cons_zero]; rfl
        · exact fun _ _ _ h => h
        · first
            | (refine Or.inr ⟨?_, ?_⟩ <;> rfl)
            | (refine Or.inl ⟨?_, ?_⟩; · rfl
               intro w hSw; (try dsimp only at hSw); go_simp; (try with_reducible rfl); done)
        try simp only [Act.put, List.setIfInBounds_toArray, List.set_cons_zero, List.set_cons_succ]
        refine wpAnyH_ready (rs := [4, 6]) (by kernel_rfl) (by simp) ?_
        refine AllReadyH.cons (o := ?_) ?_ (fun K hK => ?_) ?_
        rotate_left 1
        · simp only [List.getElem?_toArray, List.getElem?_cons_succ, List.getElem?_cons_zero]; rfl
        · go_simp
          skip
          refine hK.out _ _ ?_ (fun hHeld => ?_)
          · try dsimp only
            go_keep
          clear hK K
          try simp only [Act.put, List.setIfInBounds_toArray, List.set_cons_zero, List.set_cons_succ]
          refine wpAnyH_ready (rs := [6]) (by kernel_rfl) (by simp) ?_
          refine AllReadyH.cons (o := ?_) ?_ (fun K hK => ?_) AllReadyH.nil
          rotate_left 1
          · simp only [List.getElem?_toArray, List.getElem?_cons_succ, List.getElem?_cons_zero]; rfl
          go_simp
          go_at_call 30
          go_must (refine Calls.mono (pickN_any R (m + 1 + 3 * k + 1) 2 _ (by omega) (by omega) (HR2.out.drew.alloc _)) ?_)
          rintro e wa ⟨y, rfl, hy, hra, hga⟩
          have HMa := Lib.hid (PaM.pick (HM2.out.drew.alloc _) hga)
          have HRa := Lib.hid hra
          have hza := hga.size
          have hyi1 : (0 : Int) ≤ (y : Int) := by omega
          have hyi2 : (y : Int) < 2 := by omega
          have hbxa := HMa.out.box.cell
          have hOna := HMa.out.O.cell1 (i := k - 1) (by omega)
          have hOfa := HMa.out.O.free (k - 1)
          have hrca := HMa.out.res.cell
          have hrfa := HMa.out.res.free
          have hba := HMa.out.box.lt
          have hrla := HMa.out.res.lt
          have hgla := HMa.out.O.lt
          have hyc : wa.cell? ⟨w2.heap.size, y, none⟩ = some (.int .i64 (tw2 y)) := (gcell hga w2.heap.size y (by simp) (by omega)).trans ((box_new w2.drew _ _ y).trans (tw2_at hy))
          refine hK.out _ _ ?_ (fun hHeld => ?_)
          · try dsimp only
            go_keep
          clear hK K
          try simp only [Act.put, List.setIfInBounds_toArray, List.set_cons_zero, List.set_cons_succ]
          refine wpAnyH_take (i := 7) (oi := ?_) (v := ?_) ?_ (by kernel_rfl) (by kernel_rfl) (by kernel_rfl) ?_ ?_ (by assumption) ?_
          rotate_left 2
          · simp only [List.getElem?_toArray, List.getElem?_cons_succ, List.getElem?_cons_zero]; rfl
          · exact fun _ _ _ h => h
          · first
              | (refine Or.inr ⟨?_, ?_⟩ <;> rfl)
              | (refine Or.inl ⟨?_, ?_⟩; · rfl
                 intro w hSw; (try dsimp only at hSw); go_simp; (try with_reducible rfl); done)
          try simp only [Act.put, List.setIfInBounds_toArray, List.set_cons_zero, List.set_cons_succ]
          refine wpAnyH_ready (rs := [8]) (by kernel_rfl) (by simp) ?_
          refine AllReadyH.cons (o := ?_) ?_ (fun K hK => ?_) AllReadyH.nil
          rotate_left 1
          · simp only [List.getElem?_toArray, List.getElem?_cons_succ, List.getElem?_cons_zero]; rfl
          go_simp
          skip
          refine hK.out _ _ ?_ (fun hHeld => ?_)
          · try dsimp only
            go_keep
          clear hK K
          try simp only [Act.put, List.setIfInBounds_toArray, List.set_cons_zero, List.set_cons_succ]
          refine wpAnyH_take (i := 9) (oi := ?_) (v := ?_) ?_ (by kernel_rfl) (by kernel_rfl) (by kernel_rfl) ?_ ?_ (by assumption) ?_
          rotate_left 2
          · simp only [List.getElem?_toArray, List.getElem?_cons_succ, List.getElem?_cons_zero]; rfl
          · exact fun _ _ _ h => h
          · first
              | (refine Or.inr ⟨?_, ?_⟩ <;> rfl)
              | (refine Or.inl ⟨?_, ?_⟩; · rfl
                 intro w hSw; (try dsimp only at hSw); go_simp; (try with_reducible rfl); done)
          try simp only [Act.put, List.setIfInBounds_toArray, List.set_cons_zero, List.set_cons_succ]
          refine wpAnyH_ready (rs := [10]) (by kernel_rfl) (by simp) ?_
          refine AllReadyH.cons (o := ?_) ?_ (fun K hK => ?_) AllReadyH.nil
          rotate_left 1
          · simp only [List.getElem?_toArray, List.getElem?_cons_succ, List.getElem?_cons_zero]; rfl
          go_simp
          skip
          refine hK.out _ _ ?_ (fun hHeld => ?_)
          · try dsimp only
            go_keep
          clear hK K
          try simp only [Act.put, List.setIfInBounds_toArray, List.set_cons_zero, List.set_cons_succ]
          refine wpAnyH_done (by kernel_rfl) ?_ _
          go_wp2_with fail
          exact bodyPost_ret (v := .agg #[.slice (some ⟨gI, 0, none⟩) k cI, .slice (some ⟨gO, 0, none⟩) k cO]) (by simp [results, Try.results47, go_sem, hrca]) rfl ((HMa.out.putO (k - 1) (tw2 y)).done (HRa.out.set (by omega)) (by omega) (IC.of_own (HMa.out.putO (k - 1) (tw2 y)).O) (Nat.le_refl _))
        refine AllReadyH.cons (o := ?_) ?_ (fun K hK => ?_) ?_
        rotate_left 1
        · simp only [List.getElem?_toArray, List.getElem?_cons_succ, List.getElem?_cons_zero]; rfl
        · go_simp
          go_at_call 30
          go_must (refine Calls.mono (pickN_any R (m + 1 + 3 * k + 1) 2 _ (by omega) (by omega) HR2.out.drew) ?_)
          rintro e wa ⟨y, rfl, hy, hra, hga⟩
          have HMa := Lib.hid (PaM.pick HM2.out.drew hga)
          have HRa := Lib.hid hra
          have hza := hga.size
          have hyi1 : (0 : Int) ≤ (y : Int) := by omega
          have hyi2 : (y : Int) < 2 := by omega
          have hbxa := HMa.out.box.cell
          have hOna := HMa.out.O.cell1 (i := k - 1) (by omega)
          have hOfa := HMa.out.O.free (k - 1)
          have hrca := HMa.out.res.cell
          have hrfa := HMa.out.res.free
          have hba := HMa.out.box.lt
          have hrla := HMa.out.res.lt
          have hgla := HMa.out.O.lt
          refine hK.out _ _ ?_ (fun hHeld => ?_)
          · try dsimp only
            go_keep
          clear hK K
          try simp only [Act.put, List.setIfInBounds_toArray, List.set_cons_zero, List.set_cons_succ]
          refine wpAnyH_ready (rs := [4]) (by kernel_rfl) (by simp) ?_
          refine AllReadyH.cons (o := ?_) ?_ (fun K hK => ?_) AllReadyH.nil
          rotate_left 1
          · simp only [List.getElem?_toArray, List.getElem?_cons_succ, List.getElem?_cons_zero]; rfl
          go_simp
          skip
          refine hK.out _ _ ?_ (fun hHeld => ?_)
          · try dsimp only
            go_keep
          clear hK K
          try simp only [Act.put, List.setIfInBounds_toArray, List.set_cons_zero, List.set_cons_succ]
          have hAy := hAt y hy
          refine wpAnyH_take (i := 7) (oi := ?_) (v := ?_) ?_ (by kernel_rfl) (by kernel_rfl) (by kernel_rfl) ?_ ?_ (by assumption) ?_
          rotate_left 2
          · simp only [List.getElem?_toArray, List.getElem?_cons_succ, List.getElem?_cons_zero]; rfl
          · exact fun _ _ _ h => h
          · first
              | (refine Or.inr ⟨?_, ?_⟩ <;> rfl)
              | (refine Or.inl ⟨?_, ?_⟩; · rfl
                 intro w hSw; (try dsimp only at hSw); go_simp; (try with_reducible rfl); done)
          try simp only [Act.put, List.setIfInBounds_toArray, List.set_cons_zero, List.set_cons_succ]
          refine wpAnyH_ready (rs := [8]) (by kernel_rfl) (by simp) ?_
          refine AllReadyH.cons (o := ?_) ?_ (fun K hK => ?_) AllReadyH.nil
          rotate_left 1
          · simp only [List.getElem?_toArray, List.getElem?_cons_succ, List.getElem?_cons_zero]; rfl
          go_simp
          (try simp only [tw2_get])
          refine hK.out _ _ ?_ (fun hHeld => ?_)
          · try dsimp only
            go_keep
          clear hK K
          try simp only [Act.put, List.setIfInBounds_toArray, List.set_cons_zero, List.set_cons_succ]
          refine wpAnyH_take (i := 9) (oi := ?_) (v := ?_) ?_ (by kernel_rfl) (by kernel_rfl) (by kernel_rfl) ?_ ?_ (by assumption) ?_
          rotate_left 2
          · simp only [List.getElem?_toArray, List.getElem?_cons_succ, List.getElem?_cons_zero]; rfl
          · exact fun _ _ _ h => h
          · first
              | (refine Or.inr ⟨?_, ?_⟩ <;> rfl)
              | (refine Or.inl ⟨?_, ?_⟩; · rfl
                 intro w hSw; (try dsimp only at hSw); go_simp; (try with_reducible rfl); done)
          try simp only [Act.put, List.setIfInBounds_toArray, List.set_cons_zero, List.set_cons_succ]
          refine wpAnyH_ready (rs := [10]) (by kernel_rfl) (by simp) ?_
          refine AllReadyH.cons (o := ?_) ?_ (fun K hK => ?_) AllReadyH.nil
          rotate_left 1
          · simp only [List.getElem?_toArray, List.getElem?_cons_succ, List.getElem?_cons_zero]; rfl
          go_simp
          skip
          refine hK.out _ _ ?_ (fun hHeld => ?_)
          · try dsimp only
            go_keep
          clear hK K
          try simp only [Act.put, List.setIfInBounds_toArray, List.set_cons_zero, List.set_cons_succ]
          refine wpAnyH_done (by kernel_rfl) ?_ _
          go_wp2_with fail
          exact bodyPost_ret (v := .agg #[.slice (some ⟨gI, 0, none⟩) k cI, .slice (some ⟨gO, 0, none⟩) k cO]) (by simp [results, Try.results47, go_sem, World.cell?_alloc_past, hrca, hrla]) rfl (DPt.alloc ((HMa.out.putO (k - 1) (tw2 y)).done (HRa.out.set (by omega)) (by omega) (IC.of_own (HMa.out.putO (k - 1) (tw2 y)).O) (Nat.le_refl _)) _)
        exact AllReadyH.nil
      have x2 : ((x : Int) == 2) = false := by simp; omega
      by_cases h3 : x = 3
      · subst h3
        have hc1 : k ≤ cO := HM2.out.O.1
        have i1 : (1 : Int) ≤ (k : Int) := by omega
        have i2 : (k : Int) ≤ (cO : Int) := by omega
        clear h0 h1 h2
        by_cases hc : cO = 1
        · obtain rfl : k = 1 := by omega
          subst hc
          go_wp2_with fail
          exact bodyPost_ret (v := .agg #[.slice (some ⟨gI, 0, none⟩) 1 cI, .slice (some ⟨gO, 0, none⟩) 0 0]) (by simp [results, Try.results47, go_sem, hrc]) rfl ((HM2.out.setV _).done (g := fO) (HR2.out.set (by omega)) (by omega) (fun j hj => by omega) (by omega))
        · have i3 : (1 : Int) < (cO : Int) := by omega
          go_wp2_with fail
          exact bodyPost_ret (v := .agg #[.slice (some ⟨gI, 0, none⟩) k cI, .slice (some ⟨gO, 1, none⟩) (k - 1) (cO - 1)]) (by simp [results, Try.results47, go_sem, hrc]) rfl ((HM2.out.setV _).done (g := fun i => fO (i + 1)) (HR2.out.set (by omega)) (by omega) (ic_other (ic_tail1 HM2.out.O) (by dsimp only; omega) _) (by omega))
      have x3 : ((x : Int) == 3) = false := by simp; omega
      clear h0 h1 h2 h3
      go_wp2_with fail
      exact bodyPost_ret (v := .agg #[.slice (some ⟨gI, 0, none⟩) k cI, .slice (some ⟨gO, 0, none⟩) k cO]) (by simp [results, Try.results47, go_sem, hrc]) rfl (HM2.out.done HR2.out (by omega) (IC.of_own HM2.out.O) (Nat.le_refl _))
/-- a drawn number of sections and a path -/
def DOne (R M : Nat) (w : World) (e : Ending) (w' : World) : Prop :=
  ∃ (n : Nat) (v : Value) (p : Pt), e = .returned (.tuple #[.int .i64 n, v]) ∧ 1 ≤ n ∧ n ≤ 4 ∧ PtD w.heap.size w' v p ∧ p.ni = n ∧ p.no ≤ n ∧ RdL w' R M ∧ w.grownBy w' (some R)
set_option maxHeartbeats 1000000 in
theorem l91One_any (R m : Nat) (w : World) (hm : m ≤ 10000) (hr : RdL w R m) :
    Calls Try.prog 37 #[.pointer (some ⟨R, 0, none⟩)] w (DOne R (m + 21) w) := by
  have hlR := hr.lt
  have HR0 := Lib.hid hr
  clear hr
  go_enter Try.func37, Try.ntmps37
  go_wp2_with fail
  refine (pickN_any R m 4 _ (by omega) (by omega) (HR0.out.alloc _)).mono ?_
  rintro e w1 ⟨n, rfl, hn, hr1, hg1⟩
  have HR1 := Lib.hid hr1
  have HX1 := Lib.hid ((Bx.new w _ _).kept hg1 (by omega))
  have HG1 := Lib.hid (grownBy_trans (World.grownBy_alloc _ _ _) hg1)
  have hz1 := hg1.size
  rw [World.size_alloc] at hz1
  clear hr1 hg1
  have hnn : (1 : Int) + (n : Int) = (n : Int) + 1 := by omega
  go_wp2_with fail
  clear hnn
  rw [show (n : Int) + 1 = ((n + 1 : Nat) : Int) from by omega]
  refine (l91Path_any R (m + 1) (n + 1) _ (by omega) (by omega) (by omega) HR1.out).mono ?_
  rintro e w2 ⟨v, p, rfl, hp, h1, h2, hr2, hg2⟩
  have HX2 := Lib.hid (HX1.out.kept hg2 (by omega))
  have HP2 := Lib.hid hp
  have HR2 := Lib.hid hr2
  have HG2 := Lib.hid (grownBy_trans HG1.out hg2)
  obtain ⟨bi, oi, ci, bo, oo, co, rfl, _⟩ := hp
  have hxc := HX2.out.cell
  have hxf := HX2.out.free
  have H1 := Lib.hid h1
  clear hr2 hg2 h1
  go_wp2_with fail
  exact bodyPost_ret (v := .tuple #[.int .i64 ((n + 1 : Nat) : Int), .agg #[.slice (some ⟨bi, oi, none⟩) p.ni ci, .slice (some ⟨bo, oo, none⟩) p.no co]]) (by simp [results, Try.results37, go_sem, hxc]) rfl
    ⟨n + 1, _, p, rfl, by omega, by omega, ((HP2.out.setOther (by dsimp only; omega) _).setOther (by dsimp only; omega) _).mono (by omega), H1.out, h2, (HR2.out.set (by omega)).set (by omega), grow_new (grow_new HG2.out (grownBy_setCell _ _ _ _) (Nat.le_refl _)) (grownBy_setCell _ _ _ _) (Nat.le_refl _)⟩
/-- what the draw hands back -/
def DStd (w : World) (e : Ending) (w' : World) : Prop :=
  ∃ (n : Nat) (v : Value) (p : Pt), e = .returned (.tuple #[.int .i64 n, v]) ∧ 1 ≤ n ∧ n ≤ 4 ∧ PtD w.heap.size w' v p ∧ p.ni = n ∧ p.no ≤ n ∧ Below w.heap.size w w'
set_option maxHeartbeats 1000000 in
theorem drawStands_any (ao : Option Addr) (n c : Nat) (w : World) (hnc : n ≤ c) (hn : n ≤ 9223372036854775807) (hB : BSl w ao n) :
    Calls Try.prog 17 #[.slice ao n c] w (DStd w) := by
  have hbb : ∀ a, Below w.heap.size w (w.alloc a) := fun a => below_all w a
  have HBS := Lib.hid (fun a => hB.keep (hbb a))
  have HBB := Lib.hid hbb
  clear hB hbb
  go_enter Try.func17, Try.ntmps17
  go_wp2_with fail
  refine (open_any ao n c _ hn hnc (HBS.out _)).mono ?_
  rintro e w1 ⟨R, rfl, hR, hr1, hb1⟩
  rw [World.size_alloc] at hR hb1
  have HX1 := Lib.hid ((Bx.new w _ _).below hb1 (by omega))
  have HB1 := Lib.hid hb1
  have HR1 := Lib.hid hr1
  have hz1 : w.heap.size + 1 ≤ w1.heap.size := by have := hb1.size; simpa using this
  clear hb1 hr1
  go_wp2_with fail
  refine (l91One_any R 0 _ (by omega) HR1.out).mono ?_
  rintro e w2 ⟨k, v, p, rfl, hk1, hk2, hp, h1, h2, hr2, hg2⟩
  have HX2 := Lib.hid (HX1.out.kept hg2 (by omega))
  have HP2 := Lib.hid hp
  have HB2 := Lib.hid (((HBB.out _).trans (HB1.out.mono (by omega))).trans (below_of_grown hg2 (by omega) (by omega)))
  obtain ⟨bi, oi, ci, bo, oo, co, rfl, _⟩ := hp
  have hxc := HX2.out.cell
  have hxf := HX2.out.free
  have H1 := Lib.hid h1
  clear hr2 hg2 h1
  go_wp2_with fail
  exact bodyPost_ret (v := .tuple #[.int .i64 k, .agg #[.slice (some ⟨bi, oi, none⟩) p.ni ci, .slice (some ⟨bo, oo, none⟩) p.no co]]) (by simp [results, Try.results17, go_sem, hxc]) rfl
    ⟨k, _, p, rfl, hk1, hk2, ((HP2.out.setOther (by dsimp only; omega) _).setOther (by dsimp only; omega) _).mono (by omega), H1.out, h2, (HB2.out.setCell (by dsimp only; omega) _).setCell (by dsimp only; omega) _⟩
end Go.Proofs.Ytlflkkigagdilaa
