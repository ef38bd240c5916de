/-
  nextNearer: the railway behind the first move that leaves fewer moves.
-/
import Derived.Shelf.RegionOpen
import Derived.Test.YtbachpfgakjncaaMc
import Derived.Test.YtbachpfgakjncaaRq
import Derived.Test.YtbachpfgakjncaaRc
import Derived.Test.YtbachpfgakjncaaLx
namespace Go.Proofs.Ytbachpfgakjncaa
open Go.RowKit

/-- a move that leaves fewer moves -/
def nrB (x : Ln) (y : Int × ByteArray) : Bool := mvOk x y.1 y.2 && decide (lefS (mvTo x y.1 y.2) x.n < lefS x x.n)
def nearM (x : Ln) : Option (Int × ByteArray) := (mvsL x).find? (nrB x)
theorem nearM_some {x : Ln} (hv : vldL x = true) (h0 : 0 < lefS x x.n) : ∃ y, nearM x = some y ∧ nrB x y = true := by
  obtain ⟨y, hy, ho, hl⟩ := near_ex hv h0
  have hb : nrB x y = true := by unfold nrB; rw [ho, decide_eq_true hl]; rfl
  cases e : nearM x with
  | none =>
    have := List.find?_eq_none.1 e y hy
    exact absurd hb this
  | some z => exact ⟨z, rfl, List.find?_some e⟩
theorem near_first {x : Ln} {pre : List (Int × ByteArray)} {y : Int × ByteArray} (hp : pre ++ [y] <+: mvsL x) (h1 : ∀ z, z ∈ pre → nrB x z = false) (h2 : nrB x y = true) : nearM x = some y := by
  obtain ⟨t, ht⟩ := hp
  unfold nearM
  rw [← ht, List.append_assoc, List.find?_append]
  rw [List.find?_eq_none.2 (fun z hz => by rw [h1 z hz]; simp)]
  simp [h2]
/-- the boxes of nextNearer -/
structure NnM (w wr : World) (r : Nat) : Prop where
  b1 : Bx wr w.heap.size 64 #[.pointer (some ⟨r, 0, none⟩)]
  b2 : Bx wr (w.heap.size + 1) 64 #[.pointer none]
  b3 : Bx wr (w.heap.size + 1 + 1) 34 #[.int .i64 0, .string ⟨#[]⟩]
  b4 : Bx wr (w.heap.size + 1 + 1 + 1) 4 #[.bool false]
  bl : Below w.heap.size w wr
theorem NnM.below {w wr w' : World} {r : Nat} (h : NnM w wr r) (hb : Below wr.heap.size wr w') : NnM w w' r :=
  ⟨h.b1.below hb h.b1.lt, h.b2.below hb h.b2.lt, h.b3.below hb h.b3.lt, h.b4.below hb h.b4.lt, h.bl.trans (hb.mono h.bl.size)⟩
/-- between two rounds of nextNearer's loop -/
structure NnI (w w3 : World) (r B5 : Nat) (x : Ln) (pre : List (Int × ByteArray)) (W : World) : Prop where
  no : ∀ z, z ∈ pre → nrB x z = false
  nn : NnM w W r
  lf : Bx W B5 3 #[.int .i64 (lefS x x.n)]
  bl : Below w3.heap.size w3 W
theorem NnI.below {w w3 W W' : World} {r B5 : Nat} {x : Ln} {pre : List (Int × ByteArray)} (h : NnI w w3 r B5 x pre W) (hb : Below W.heap.size W W') : NnI w w3 r B5 x pre W' :=
  ⟨h.no, h.nn.below hb, h.lf.below hb h.lf.lt, h.bl.trans (hb.mono h.bl.size)⟩
theorem NnI.next {w w3 W W' : World} {r B5 : Nat} {x : Ln} {pre : List (Int × ByteArray)} {y : Int × ByteArray} (h : NnI w w3 r B5 x pre W) (hb : Below W.heap.size W W') (hy : nrB x y = false) : NnI w w3 r B5 x (pre ++ [y]) W' := by
  have h2 := h.below hb
  exact ⟨fun z hz => by
    rcases List.mem_append.1 hz with hz | hz
    · exact h.no z hz
    · rw [List.mem_singleton.1 hz]; exact hy, h2.nn, h2.lf, h2.bl⟩
theorem keepsFrom_below {W W' : World} (hb : Below W.heap.size W W') (B : Nat) : KeepsFrom B W W' := (KeepsOthers.of_grownBy (grownBy_below hb none) (fun j o e _ => by cases e)).from _
/-- a round of nextNearer's loop has found a move -/
def NnX (w _w3 : World) (x : Ln) (c : Code) (pre : List (Int × ByteArray)) (W : World) : Prop :=
  c = .ret ∧ ∃ y s pre', pre = pre' ++ [y] ∧ (∀ z, z ∈ pre' → nrB x z = false) ∧ nrB x y = true ∧ Bx W (w.heap.size + 1) 64 #[s] ∧ Bx W (w.heap.size + 1 + 1) 34 #[.int .i64 y.1, .string y.2] ∧ Bx W (w.heap.size + 1 + 1 + 1) 4 #[.bool true] ∧ RwN w.heap.size W s (mvTo x y.1 y.2) ∧ Below w.heap.size w W
theorem RwC.setO {w : World} {r gb cb gt ct : Nat} {x : Ln} (h : RwC w r gb cb gt ct x) {b o : Nat} (h1 : b ≠ r) (h2 : b ≠ gb) (h3 : b ≠ gt) (u : Value) : RwC (w.setCell ⟨b, o, none⟩ u) r gb cb gt ct x :=
  ⟨h.box.setOther (fun e => h1 e.symm) _, h.bs.setOther (fun e => h2 e.symm) _, h.ts.setOther (fun e => h3 e.symm) _, h.d1, h.d2, h.d3⟩
theorem bx_put {V : World} {b D : Nat} {t : TypeId} {cs : Array Value} {o : Obj} (h : Bx V b t cs) (hD : V.heap[D]? = some o) (ho : o.isCells = false) (o' : Obj) : Bx (V.putObj D o') b t cs :=
  h.of_block ((grownBy_putObj' V D o').block b h.lt (fun e => by
    cases e
    rw [show V.heap[b]? = _ from h] at hD
    cases hD
    cases ho))
theorem own_put {V : World} {g cap n s D : Nat} {t : TypeId} {f : Nat → Value} {o : Obj} (h : Own V g cap n s t f) (hD : V.heap[D]? = some o) (ho : o.isCells = false) (o' : Obj) : Own (V.putObj D o') g cap n s t f := by
  have h0 := h
  obtain ⟨_, _, cur, hg, _⟩ := h0
  refine h.of_block ((grownBy_putObj' V D o').block g h.lt (fun e => ?_))
  cases e
  rw [hg] at hD
  cases hD
  cases ho
theorem own_notrow {W : World} {g cap n s B : Nat} {t : TypeId} {f : Nat → Value} {row : Option Nat} (h : Own W g cap n s t f) (hr : ∀ r, row = some r → B ≤ r ∧ ∃ o : Obj, W.heap[r]? = some o ∧ o.isCells = false) : row ≠ some g := fun e => by
  obtain ⟨_, o, ho, hc⟩ := hr g e
  obtain ⟨_, _, cur, hg, _⟩ := h
  rw [hg] at ho
  cases ho
  cases hc
theorem below_gr {B R : Nat} {w0 w w' : World} {row : Option Nat} (h : Below B w0 w) (hg : w.grownBy w' row) (hr : ∀ c, row = some c → R ≤ c ∧ ∃ o : Obj, w.heap[c]? = some o ∧ o.isCells = false) (hR : B ≤ R) (hB : B ≤ w0.heap.size) : Below B w0 w' := by
  refine h.trans ⟨hg.os, hg.tape, hg.output, hg.size, fun k hk => hg.block k (Nat.lt_of_lt_of_le hk (Nat.le_trans hB h.size)) (fun e => ?_)⟩
  have := (hr k e.symm).1
  omega
theorem Bx.gr {W W' : World} {b B : Nat} {t : TypeId} {cs : Array Value} {row : Option Nat} (h : Bx W b t cs) (hg : W.grownBy W' row) (hr : ∀ r, row = some r → B ≤ r ∧ ∃ o : Obj, W.heap[r]? = some o ∧ o.isCells = false) : Bx W' b t cs := h.of_block (hg.block b h.lt (fun e => bx_notrow h hr e.symm))
theorem Own.gr {W W' : World} {g cap n s B : Nat} {t : TypeId} {f : Nat → Value} {row : Option Nat} (h : Own W g cap n s t f) (hg : W.grownBy W' row) (hr : ∀ r, row = some r → B ≤ r ∧ ∃ o : Obj, W.heap[r]? = some o ∧ o.isCells = false) : Own W' g cap n s t f := h.of_block (hg.block g h.lt (fun e => own_notrow h hr e.symm))
theorem NnM.gr {w wr w' : World} {r B : Nat} {row : Option Nat} (h : NnM w wr r) (hg : wr.grownBy w' row) (hr : ∀ c, row = some c → B ≤ c ∧ ∃ o : Obj, wr.heap[c]? = some o ∧ o.isCells = false) (hB : w.heap.size ≤ B) : NnM w w' r :=
  ⟨h.b1.gr hg hr, h.b2.gr hg hr, h.b3.gr hg hr, h.b4.gr hg hr, below_gr h.bl hg hr hB (Nat.le_refl _)⟩
theorem RwC.gr {w w' : World} {r gb cb gt ct B : Nat} {x : Ln} {row : Option Nat} (h : RwC w r gb cb gt ct x) (hg : w.grownBy w' row) (hr : ∀ c, row = some c → B ≤ c ∧ ∃ o : Obj, w.heap[c]? = some o ∧ o.isCells = false) : RwC w' r gb cb gt ct x :=
  ⟨h.box.gr hg hr, h.bs.gr hg hr, h.ts.gr hg hr, h.d1, h.d2, h.d3⟩
theorem KeepsFrom.of_drew (W : World) (B : Nat) : KeepsFrom B W W.drew := keepsFrom_below (Below.refl _ W).drew B
attribute [local go_sem] Oper.semAt_some
set_option linter.unusedSimpArgs false in
set_option maxRecDepth 100000 in
set_option maxHeartbeats 4000000 in
theorem nextNearer_in (n : Nat) (hn : 6 ≤ n) (r gb cb gt ct : Nat) (x : Ln) (y : Int × ByteArray) (hy : nearM x = some y) (hxn : x.n ≤ 1000) (hxm : x.m ≤ 1000) (w : World) (hr : RwC w r gb cb gt ct x) :
    CallsIn Fence.wide n Try.prog 68 #[.pointer (some ⟨r, 0, none⟩)] w fun e W' => (∃ s, e = .returned (.tuple #[s, .agg #[.int .i64 y.1, .string y.2], .bool true]) ∧ RwN w.heap.size W' s (mvTo x y.1 y.2)) ∧ Below w.heap.size w W' := by
  have h1 : 1 ≤ n := by omega
  have HR := Lib.hid hr
  have HY := Lib.hid hy
  clear hr hy
  refine callsIn_of_wp_marks Try.func68 rfl trivial ?_ rfl
  simp only [Try.ntmps68, List.size_toArray, List.length_cons, List.length_nil, Nat.reduceAdd, Nat.reduceSub, Array.replicate_succ, Array.replicate_zero, List.push_toArray, List.append_toArray, List.nil_append, List.cons_append]
  gi_wp2
  refine ⟨trivial, ?_⟩
  have HN0 : Hid (NnM w ((((w.alloc (.cells #[.pointer (some ⟨r, 0, none⟩)] 64)).alloc (.cells #[.pointer none] 64)).alloc (.cells #[.int .i64 0, .string ⟨#[]⟩] 34)).alloc (.cells #[.bool false] 4)) r) :=
    ⟨(((Bx.new _ _ _).alloc _).alloc _).alloc _, ((Bx.newAt (by simp)).alloc _).alloc _, (Bx.newAt (by simp)).alloc _, Bx.newAt (by simp), (((below_all _ _).alloc (by simp) _).alloc (by simp; omega) _).alloc (by simp; omega) _⟩
  have HR0 := Lib.hid (HR.out.below HN0.out.bl (Nat.le_refl _))
  generalize (((w.alloc (.cells #[.pointer (some ⟨r, 0, none⟩)] 64)).alloc (.cells #[.pointer none] 64)).alloc (.cells #[.int .i64 0, .string ⟨#[]⟩] 34)).alloc (.cells #[.bool false] 4) = w0 at *
  refine (callsIn_wide.2 (leftMoves_any r gb cb gt ct x _ hxn hxm HR0.out)).mono ?_
  rintro e w1 ⟨rfl, hb1⟩
  have HN1 := Lib.hid (HN0.out.below hb1)
  have HR1 := Lib.hid (HR0.out.below hb1 (Nat.le_refl _))
  have hc1 := HN1.out.b1.cell
  have hl1 := HN1.out.b1.lt
  clear hb1
  gi_wp2
  refine ⟨trivial, ?_⟩
  have HN2 : Hid (NnM w (w1.alloc (.cells #[.int .i64 (lefS x x.n)] 3)) r) := HN1.out.below (below_all _ _)
  have HR2 : Hid (RwC (w1.alloc (.cells #[.int .i64 (lefS x x.n)] 3)) r gb cb gt ct x) := HR1.out.below (below_all _ _) (Nat.le_refl _)
  have HL2 : Hid (Bx (w1.alloc (.cells #[.int .i64 (lefS x x.n)] 3)) w1.heap.size 3 #[.int .i64 (lefS x x.n)]) := Bx.new _ _ _
  have hz1 : w.heap.size + 4 ≤ w1.heap.size := by have := HN1.out.b4.lt; omega
  clear hc1 hl1
  generalize w1.alloc (.cells #[.int .i64 (lefS x x.n)] 3) = w2 at *
  refine (callsIn_wide.2 (moves_any _ _)).mono ?_
  rintro e w3 ⟨rfl, rfl⟩
  have HN3 : Hid (NnM w (w2.alloc (.cells #[.pointer (some ⟨r, 0, none⟩)] 64)) r) := HN2.out.below (below_all _ _)
  have HR3 : Hid (RwC (w2.alloc (.cells #[.pointer (some ⟨r, 0, none⟩)] 64)) r gb cb gt ct x) := HR2.out.below (below_all _ _) (Nat.le_refl _)
  have HL3 : Hid (Bx (w2.alloc (.cells #[.pointer (some ⟨r, 0, none⟩)] 64)) w1.heap.size 3 #[.int .i64 (lefS x x.n)]) := HL2.out.alloc _
  have HS3 : Hid (Bx (w2.alloc (.cells #[.pointer (some ⟨r, 0, none⟩)] 64)) w2.heap.size 64 #[.pointer (some ⟨r, 0, none⟩)]) := Bx.new _ _ _
  gi_wp2
  generalize w2.alloc (.cells #[.pointer (some ⟨r, 0, none⟩)] 64) = w3 at *
  have hz3 : w1.heap.size < w3.heap.size ∧ w2.heap.size < w3.heap.size ∧ w.heap.size ≤ w1.heap.size := ⟨HL3.out.lt, HS3.out.lt, by omega⟩
  obtain ⟨zl, zs, zw⟩ := hz3
  have zw' : w.heap.size ≤ w3.heap.size := by omega
  have zr : r < w3.heap.size ∧ gb < w3.heap.size ∧ gt < w3.heap.size := ⟨HR3.out.box.lt, HR3.out.bs.lt, HR3.out.ts.lt⟩
  refine wpIn_rangeFunc_ownH rfl h1 (gf := 84) (lb := #[.pointer (some ⟨w2.heap.size, 0, none⟩)]) rfl trivial (enters_of Try.func84 (by kernel_rfl) rfl)
    (mvs_stops (n - 1) (by omega) w2.heap.size r gb cb gt ct x (by omega) (by omega) w3.heap.size w3 (Nat.le_refl _) (HS3.out.cell 0) zs HR3.out zr.1 zr.2.1 zr.2.2) belowK_t (belowK_b (Nat.le_refl _)) (Below.refl _ _) (fun _ => rfl)
    (fun pre W => NnI w w3 r w1.heap.size x pre W)
    (fun c pre W => NnX w w3 x c pre W)
    ?hI ?hIx ?h0
    (fun y a' W => ∃ Bv, w3.heap.size ≤ Bv ∧ Bx W Bv 34 #[.int .i64 y.1, .string y.2] ∧ a' = { tmps := #[.pointer (some ⟨r, 0, none⟩), .pointer (some ⟨w.heap.size, 0, none⟩), .pointer (some ⟨w.heap.size + 1, 0, none⟩), .pointer (some ⟨w.heap.size + 1 + 1, 0, none⟩), .pointer (some ⟨w.heap.size + 1 + 1 + 1, 0, none⟩), .pointer (some ⟨w1.heap.size, 0, none⟩), .pointer (some ⟨Bv, 0, none⟩), undef, .pointer (some ⟨r, 0, none⟩), .int .i64 (lefS x x.n), .pointer (some ⟨r, 0, none⟩), .func (.func 84) #[] #[.pointer (some ⟨w2.heap.size, 0, none⟩)], .agg #[.int .i64 y.1, .string y.2], undef, undef, undef, undef, undef, undef, undef, undef, undef, undef, undef, undef, undef, undef, undef, undef, undef, undef, undef, undef, undef, undef, undef, undef, undef], defers := [] })
    (fun y a' s A B row hs hg hr => by
      obtain ⟨Bv, q1, q2, q3⟩ := hs
      exact ⟨Bv, q1, q2.of_block (hg.block Bv q2.lt (fun e => bx_notrow q2 hr e.symm)), q3⟩) ?assign ?body ?done ?stop
  case hI =>
    intro s A B row hs hg hr
    exact ⟨hs.no, hs.nn.gr hg hr zw', hs.lf.gr hg hr, below_gr hs.bl hg hr (Nat.le_refl _) (Nat.le_refl _)⟩
  case hIx =>
    intro c s A B row hs hg hr
    obtain ⟨a1, y', s', pre', a2, a3, a4, a5, a6, a7, ⟨r2, g1, c1, g2, c2, e, b1, b2, b3, b4⟩, a9⟩ := hs
    exact ⟨a1, y', s', pre', a2, a3, a4, a5.gr hg hr, a6.gr hg hr, a7.gr hg hr, ⟨r2, g1, c1, g2, c2, e, b1.gr hg hr, b2, b3, b4⟩, below_gr a9 hg hr zw' (Nat.le_refl _)⟩
  case h0 =>
    exact ⟨fun z h => (by cases h), HN3.out, HL3.out, Below.refl _ _⟩
  case assign =>
    rintro l pre y W K hi hK
    gi_wp2
    exact hK _ _ ((KeepsOthers.alloc _ _).from _) ((Below.refl _ W).alloc hi.bl.size _) (hi.below (below_all _ _)) ⟨W.heap.size, hi.bl.size, Bx.new _ _ _, rfl⟩
  case body =>
    rintro l pre y' a' W hl ⟨r', hr'⟩ hi ⟨Bv, hBv, bX, rfl⟩ hlt
    have HI := Lib.hid hi
    have HX := Lib.hid bX
    have HRW := Lib.hid (HR3.out.belowN hi.bl zr.1 zr.2.1 zr.2.2)
    have hc1 := hi.nn.b1.cell
    have hcl := hi.lf.cell
    have hxc := bX.cell
    have hrc := HRW.out.box.cell
    clear hi bX
    have HW : Hid (Below W.heap.size W W) := Below.refl _ _
    have zx := HX.out.lt
    have z1 := HI.out.nn.b1.lt
    have z5 := HI.out.lf.lt
    have zrr := HRW.out.box.lt
    gi_wp2_with fail
    refine region_round (S := (fun w' => w'.cell? ⟨w.heap.size, 0, none⟩ = some (.pointer (some ⟨r, 0, none⟩)) ∧ w'.cell? ⟨r, 0, none⟩ = some (.slice (some ⟨gb, 0, none⟩) x.n cb) ∧ w'.cell? ⟨r, 1, none⟩ = some (.slice (some ⟨gt, 0, none⟩) x.m ct))) (by kernel_rfl) (by kernel_rfl) (fun h => (by obtain ⟨_, _, h⟩ := h; exact h)) ?_ (fun hHeld => ?_)
    · try dsimp only
      go_keep
    refine wpAnyH_take (i := 0) (oi := ?_) (v := ?_) ?_ (by kernel_rfl) (by kernel_rfl) (by kernel_rfl) ?_ ?_ (by assumption) ?_
    rotate_left 2
    · simp only [List.getElem?_toArray, List.getElem?_cons_succ, List.getElem?_cons_zero]; rfl
    · exact fun _ _ _ h => h
    · first
        | (refine Or.inr ⟨?_, ?_⟩ <;> rfl)
        | (refine Or.inl ⟨?_, ?_⟩; · rfl
           intro w hSw; (try dsimp only at hSw); go_simp; (try with_reducible rfl); done)
    try simp only [Act.put, List.setIfInBounds_toArray, List.set_cons_zero, List.set_cons_succ]
    refine wpAnyH_take (i := 1) (oi := ?_) (v := ?_) ?_ (by kernel_rfl) (by kernel_rfl) (by kernel_rfl) ?_ ?_ (by assumption) ?_
    rotate_left 2
    · simp only [List.getElem?_toArray, List.getElem?_cons_succ, List.getElem?_cons_zero]; rfl
    · exact fun _ _ _ h => h
    · first
        | (refine Or.inr ⟨?_, ?_⟩ <;> rfl)
        | (refine Or.inl ⟨?_, ?_⟩; · rfl
           intro w hSw; (try dsimp only at hSw); go_simp; (try with_reducible rfl); done)
    try simp only [Act.put, List.setIfInBounds_toArray, List.set_cons_zero, List.set_cons_succ]
    refine wpAnyH_take (i := 2) (oi := ?_) (v := ?_) ?_ (by kernel_rfl) (by kernel_rfl) (by kernel_rfl) ?_ ?_ (by assumption) ?_
    rotate_left 2
    · simp only [List.getElem?_toArray, List.getElem?_cons_succ, List.getElem?_cons_zero]; rfl
    · exact fun _ _ _ h => h
    · first
        | (refine Or.inr ⟨?_, ?_⟩ <;> rfl)
        | (refine Or.inl ⟨?_, ?_⟩; · rfl
           intro w hSw; (try dsimp only at hSw); go_simp; (try with_reducible rfl); done)
    try simp only [Act.put, List.setIfInBounds_toArray, List.set_cons_zero, List.set_cons_succ]
    refine wpAnyH_take (i := 3) (oi := ?_) (v := ?_) ?_ (by kernel_rfl) (by kernel_rfl) (by kernel_rfl) ?_ ?_ (by assumption) ?_
    rotate_left 2
    · simp only [List.getElem?_toArray, List.getElem?_cons_succ, List.getElem?_cons_zero]; rfl
    · exact fun _ _ _ h => h
    · first
        | (refine Or.inr ⟨?_, ?_⟩ <;> rfl)
        | (refine Or.inl ⟨?_, ?_⟩; · rfl
           intro w hSw; (try dsimp only at hSw); go_simp; (try with_reducible rfl); done)
    try simp only [Act.put, List.setIfInBounds_toArray, List.set_cons_zero, List.set_cons_succ]
    refine wpAnyH_take (i := 5) (oi := ?_) (v := ?_) ?_ (by kernel_rfl) (by kernel_rfl) (by kernel_rfl) ?_ ?_ (by assumption) ?_
    rotate_left 2
    · simp only [List.getElem?_toArray, List.getElem?_cons_succ, List.getElem?_cons_zero]; rfl
    · exact fun _ _ _ h => h
    · first
        | (refine Or.inr ⟨?_, ?_⟩ <;> rfl)
        | (refine Or.inl ⟨?_, ?_⟩; · rfl
           intro w hSw; (try dsimp only at hSw); go_simp; (try with_reducible rfl); done)
    try simp only [Act.put, List.setIfInBounds_toArray, List.set_cons_zero, List.set_cons_succ]
    refine wpAnyH_take (i := 6) (oi := ?_) (v := ?_) ?_ (by kernel_rfl) (by kernel_rfl) (by kernel_rfl) ?_ ?_ (by assumption) ?_
    rotate_left 2
    · simp only [List.getElem?_toArray, List.getElem?_cons_succ, List.getElem?_cons_zero]; rfl
    · exact fun _ _ _ h => h
    · first
        | (refine Or.inr ⟨?_, ?_⟩ <;> rfl)
        | (refine Or.inl ⟨?_, ?_⟩; · rfl
           intro w hSw; (try dsimp only at hSw); go_simp; (try with_reducible rfl); done)
    try simp only [Act.put, List.setIfInBounds_toArray, List.set_cons_zero, List.set_cons_succ]
    refine wpAnyH_take (i := 7) (oi := ?_) (v := ?_) ?_ (by kernel_rfl) (by kernel_rfl) (by kernel_rfl) ?_ ?_ (by assumption) ?_
    rotate_left 2
    · simp only [List.getElem?_toArray, List.getElem?_cons_succ, List.getElem?_cons_zero]; rfl
    · exact fun _ _ _ h => h
    · first
        | (refine Or.inr ⟨?_, ?_⟩ <;> rfl)
        | (refine Or.inl ⟨?_, ?_⟩; · rfl
           intro w hSw; (try dsimp only at hSw); go_simp; (try with_reducible rfl); done)
    try simp only [Act.put, List.setIfInBounds_toArray, List.set_cons_zero, List.set_cons_succ]
    refine wpAnyH_take (i := 8) (oi := ?_) (v := ?_) ?_ (by kernel_rfl) (by kernel_rfl) (by kernel_rfl) ?_ ?_ (by assumption) ?_
    rotate_left 2
    · simp only [List.getElem?_toArray, List.getElem?_cons_succ, List.getElem?_cons_zero]; rfl
    · exact fun _ _ _ h => h
    · first
        | (refine Or.inr ⟨?_, ?_⟩ <;> rfl)
        | (refine Or.inl ⟨?_, ?_⟩; · rfl
           intro w hSw; (try dsimp only at hSw); go_simp; (try with_reducible rfl); done)
    try simp only [Act.put, List.setIfInBounds_toArray, List.set_cons_zero, List.set_cons_succ]
    refine wpAnyH_ready (rs := [4]) (by kernel_rfl) (by simp) ?_
    refine AllReadyH.cons (o := ?_) ?_ (fun K hK => ?_) AllReadyH.nil
    rotate_left 1
    · simp only [List.getElem?_toArray, List.getElem?_cons_succ, List.getElem?_cons_zero]; rfl
    go_simp
    go_at_call 94
    go_must (refine Calls.mono (cloneBs_any gb 0 x.n cb x.N x.I x.O _ (by omega) (BkC.of_own (HRW.out.drew.bs))) ?_)
    rintro e v1 ⟨g1, c1, rfl, hg1, ho1, hb1⟩
    replace hb1 : Below W.heap.size W v1 := (Below.refl _ W).drew.trans hb1
    have hg1' : W.heap.size ≤ g1 := hg1
    have HO1 := Lib.hid ho1
    have HB1 := Lib.hid hb1
    have HRV := Lib.hid (HRW.out.below hb1 (Nat.le_refl _))
    have hc1v := (HI.out.nn.below hb1).b1.cell
    have hrcv := HRV.out.box.cell
    have hzv1 : W.heap.size ≤ v1.heap.size := hb1.size
    clear ho1 hb1 hg1 hc1 hrc
    refine hK.out _ _ ?_ (fun hHeld => ?_)
    · try dsimp only
      go_keep
    clear hK K
    try simp only [Act.put, List.setIfInBounds_toArray, List.set_cons_zero, List.set_cons_succ]
    refine wpAnyH_ready (rs := [9]) (by kernel_rfl) (by simp) ?_
    refine AllReadyH.cons (o := ?_) ?_ (fun K hK => ?_) AllReadyH.nil
    rotate_left 1
    · simp only [List.getElem?_toArray, List.getElem?_cons_succ, List.getElem?_cons_zero]; rfl
    go_simp
    go_at_call 81
    go_must (refine Calls.mono (clone_any gt 0 x.m ct x.T _ (by omega) (HRV.out.ic)) ?_)
    rintro e v2 ⟨g2, c2, rfl, hg2, ho2, hb2⟩
    have HO2 := Lib.hid ho2
    have HT := Lib.hid (rw_two HO1.out hb2 hg2)
    have HB2 := Lib.hid (HB1.out.trans (hb2.mono (by omega)))
    have hc1w := (HI.out.nn.below HB2.out).b1.cell
    have hrcw := (HRW.out.below HB2.out (Nat.le_refl _)).box.cell
    have hzv2 : v1.heap.size ≤ v2.heap.size := hb2.size
    have hg2' : W.heap.size ≤ g2 := by omega
    clear ho2 hb2 hg2 hc1v hrcv
    refine hK.out _ _ ?_ (fun hHeld => ?_)
    · try dsimp only
      go_keep
    clear hK K
    try simp only [Act.put, List.setIfInBounds_toArray, List.set_cons_zero, List.set_cons_succ]
    refine wpAnyH_take (i := 10) (oi := ?_) (v := ?_) ?_ (by kernel_rfl) (by kernel_rfl) (by kernel_rfl) ?_ ?_ (by assumption) ?_
    rotate_left 2
    · simp only [List.getElem?_toArray, List.getElem?_cons_succ, List.getElem?_cons_zero]; rfl
    · exact fun _ _ _ h => h
    · first
        | (refine Or.inr ⟨?_, ?_⟩ <;> rfl)
        | (refine Or.inl ⟨?_, ?_⟩; · rfl
           intro w hSw; (try dsimp only at hSw); go_simp; (try with_reducible rfl); done)
    try simp only [Act.put, List.setIfInBounds_toArray, List.set_cons_zero, List.set_cons_succ]
    refine wpAnyH_ready (rs := [11]) (by kernel_rfl) (by simp) ?_
    refine AllReadyH.cons (o := ?_) ?_ (fun K hK => ?_) AllReadyH.nil
    rotate_left 1
    · simp only [List.getElem?_toArray, List.getElem?_cons_succ, List.getElem?_cons_zero]; rfl
    go_simp
    skip
    refine hK.out _ _ ?_ (fun hHeld => ?_)
    · try dsimp only
      go_keep
    clear hK K
    try simp only [Act.put, List.setIfInBounds_toArray, List.set_cons_zero, List.set_cons_succ]
    refine wpAnyH_take (i := 12) (oi := ?_) (v := ?_) ?_ (by kernel_rfl) (by kernel_rfl) (by kernel_rfl) ?_ ?_ (by assumption) ?_
    rotate_left 2
    · simp only [List.getElem?_toArray, List.getElem?_cons_succ, List.getElem?_cons_zero]; rfl
    · exact fun _ _ _ h => h
    · first
        | (refine Or.inr ⟨?_, ?_⟩ <;> rfl)
        | (refine Or.inl ⟨?_, ?_⟩; · rfl
           intro w hSw; (try dsimp only at hSw); go_simp; (try with_reducible rfl); done)
    try simp only [Act.put, List.setIfInBounds_toArray, List.set_cons_zero, List.set_cons_succ]
    refine wpAnyH_done (by kernel_rfl) ?_ _
    have HM : Hid (RwC (v2.alloc (.cells #[.slice (some ⟨g1, 0, none⟩) x.n c1, .slice (some ⟨g2, 0, none⟩) x.m c2] 101)) v2.heap.size g1 c1 g2 c2 x) := by
      obtain ⟨a1, a2, a3⟩ := HT.out
      exact ⟨Bx.new _ _ _, a1.alloc _, HO2.out.alloc _, a2, by omega, by have := HO2.out.lt; omega⟩
    have HB3 : Hid (Below W.heap.size W (v2.alloc (.cells #[.slice (some ⟨g1, 0, none⟩) x.n c1, .slice (some ⟨g2, 0, none⟩) x.m c2] 101))) := HB2.out.alloc HB2.out.size _
    have hzv3 : W.heap.size ≤ v2.heap.size := by omega
    clear HT HO1 HO2 hc1w hrcw
    generalize hv3 : v2.alloc (.cells #[.slice (some ⟨g1, 0, none⟩) x.n c1, .slice (some ⟨g2, 0, none⟩) x.m c2] 101) = v3 at *
    clear hv3
    generalize v2.heap.size = r2 at *
    have hxc := (HX.out.below HB3.out zx).cell
    have hcl := (HI.out.lf.below HB3.out z5).cell
    gi_wp2_with fail
    have HMV : Hid (∀ V, Below v3.heap.size v3 V → Calls Try.prog 51 #[.pointer (some ⟨r2, 0, none⟩), .agg #[.int .i64 y'.1, .string y'.2]] V (MvR W.heap.size r2 g1 c1 g2 c2 x y'.1 y'.2 V)) := fun V hV =>
      move_any W.heap.size r2 g1 c1 g2 c2 x y'.1 y'.2 V (by omega) (by omega) (HM.out.below hV (Nat.le_refl _)) ⟨hg1', hg2', by have := HB3.out.size; have := hV.size; omega⟩
    have zW : w3.heap.size ≤ W.heap.size := HI.out.bl.size
    cases hmo : mvOk x y'.1 y'.2
    · have HNR : Hid (nrB x y' = false) := by show _ = _; unfold nrB; rw [hmo]; rfl
      have HMO := Lib.hid hmo
      clear hmo
      refine region_round (S := (fun w' => w'.cell? ⟨Bv, 0, none⟩ = some (.int .i64 y'.1) ∧ w'.cell? ⟨Bv, 1, none⟩ = some (.string y'.2) ∧ w'.cell? ⟨w1.heap.size, 0, none⟩ = some (.int .i64 (lefS x x.n)))) (by kernel_rfl) (by kernel_rfl) (fun h => (by obtain ⟨_, _, h⟩ := h; exact h)) ?_ (fun hHeld => ?_)
      · try dsimp only
        go_keep
      refine wpAnyH_take (i := 0) (oi := ?_) (v := ?_) ?_ (by kernel_rfl) (by kernel_rfl) (by kernel_rfl) ?_ ?_ (by assumption) ?_
      rotate_left 2
      · simp only [List.getElem?_toArray, List.getElem?_cons_succ, List.getElem?_cons_zero]; rfl
      · exact fun _ _ _ h => h
      · first
          | (refine Or.inr ⟨?_, ?_⟩ <;> rfl)
          | (refine Or.inl ⟨?_, ?_⟩; · rfl
             intro w hSw; (try dsimp only at hSw); go_simp; (try with_reducible rfl); done)
      try simp only [Act.put, List.setIfInBounds_toArray, List.set_cons_zero, List.set_cons_succ]
      refine wpAnyH_take (i := 1) (oi := ?_) (v := ?_) ?_ (by kernel_rfl) (by kernel_rfl) (by kernel_rfl) ?_ ?_ (by assumption) ?_
      rotate_left 2
      · simp only [List.getElem?_toArray, List.getElem?_cons_succ, List.getElem?_cons_zero]; rfl
      · exact fun _ _ _ h => h
      · first
          | (refine Or.inr ⟨?_, ?_⟩ <;> rfl)
          | (refine Or.inl ⟨?_, ?_⟩; · rfl
             intro w hSw; (try dsimp only at hSw); go_simp; (try with_reducible rfl); done)
      try simp only [Act.put, List.setIfInBounds_toArray, List.set_cons_zero, List.set_cons_succ]
      refine wpAnyH_ready (rs := [2]) (by kernel_rfl) (by simp) ?_
      refine AllReadyH.cons (o := ?_) ?_ (fun K hK => ?_) AllReadyH.nil
      rotate_left 1
      · simp only [List.getElem?_toArray, List.getElem?_cons_succ, List.getElem?_cons_zero]; rfl
      go_simp
      go_at_call 51
      go_must (refine Calls.mono (HMV.out _ (Below.refl _ v3).drew) ?_)
      rintro e v4 ⟨rfl, _, hb4⟩
      rw [HMO.out]
      have HB4 : Hid (Below W.heap.size W v4) := HB3.out.drew.trans hb4
      have hxc4 := (HX.out.below HB4.out zx).cell
      have hcl4 := (HI.out.lf.below HB4.out z5).cell
      clear hb4 hxc hcl
      refine hK.out _ _ ?_ (fun hHeld => ?_)
      · try dsimp only
        go_keep
      clear hK K
      try simp only [Act.put, List.setIfInBounds_toArray, List.set_cons_zero, List.set_cons_succ]
      refine wpAnyH_take (i := 3) (oi := ?_) (v := ?_) ?_ (by kernel_rfl) (by kernel_rfl) (by kernel_rfl) ?_ ?_ (by assumption) ?_
      rotate_left 2
      · simp only [List.getElem?_toArray, List.getElem?_cons_succ, List.getElem?_cons_zero]; rfl
      · exact fun _ _ _ h => h
      · first
          | (refine Or.inr ⟨?_, ?_⟩ <;> rfl)
          | (refine Or.inl ⟨?_, ?_⟩; · rfl
             intro w hSw; (try dsimp only at hSw); go_simp; (try with_reducible rfl); done)
      try simp only [Act.put, List.setIfInBounds_toArray, List.set_cons_zero, List.set_cons_succ]
      refine wpAnyH_take (i := 4) (oi := ?_) (v := ?_) ?_ (by kernel_rfl) (by kernel_rfl) (by kernel_rfl) ?_ ?_ (by assumption) ?_
      rotate_left 2
      · simp only [List.getElem?_toArray, List.getElem?_cons_succ, List.getElem?_cons_zero]; rfl
      · exact fun _ _ _ h => h
      · first
          | (refine Or.inr ⟨?_, ?_⟩ <;> rfl)
          | (refine Or.inl ⟨?_, ?_⟩; · rfl
             intro w hSw; (try dsimp only at hSw); go_simp; (try with_reducible rfl); done)
      try simp only [Act.put, List.setIfInBounds_toArray, List.set_cons_zero, List.set_cons_succ]
      refine wpAnyH_take (i := 5) (oi := ?_) (v := ?_) ?_ (by kernel_rfl) (by kernel_rfl) (by kernel_rfl) ?_ ?_ (by assumption) ?_
      rotate_left 2
      · simp only [List.getElem?_toArray, List.getElem?_cons_succ, List.getElem?_cons_zero]; rfl
      · exact fun _ _ _ h => h
      · first
          | (refine Or.inr ⟨?_, ?_⟩ <;> rfl)
          | (refine Or.inl ⟨?_, ?_⟩; · rfl
             intro w hSw; (try dsimp only at hSw); go_simp; (try with_reducible rfl); done)
      try simp only [Act.put, List.setIfInBounds_toArray, List.set_cons_zero, List.set_cons_succ]
      refine wpAnyH_take (i := 6) (oi := ?_) (v := ?_) ?_ (by kernel_rfl) (by kernel_rfl) (by kernel_rfl) ?_ ?_ (by assumption) ?_
      rotate_left 2
      · simp only [List.getElem?_toArray, List.getElem?_cons_succ, List.getElem?_cons_zero]; rfl
      · exact fun _ _ _ h => h
      · first
          | (refine Or.inr ⟨?_, ?_⟩ <;> rfl)
          | (refine Or.inl ⟨?_, ?_⟩; · rfl
             intro w hSw; (try dsimp only at hSw); go_simp; (try with_reducible rfl); done)
      try simp only [Act.put, List.setIfInBounds_toArray, List.set_cons_zero, List.set_cons_succ]
      refine wpAnyH_take (i := 7) (oi := ?_) (v := ?_) ?_ (by kernel_rfl) (by kernel_rfl) (by kernel_rfl) ?_ ?_ (by assumption) ?_
      rotate_left 2
      · simp only [List.getElem?_toArray, List.getElem?_cons_succ, List.getElem?_cons_zero]; rfl
      · exact fun _ _ _ h => h
      · first
          | (refine Or.inr ⟨?_, ?_⟩ <;> rfl)
          | (refine Or.inl ⟨?_, ?_⟩; · rfl
             intro w hSw; (try dsimp only at hSw); go_simp; (try with_reducible rfl); done)
      try simp only [Act.put, List.setIfInBounds_toArray, List.set_cons_zero, List.set_cons_succ]
      refine wpAnyH_take (i := 8) (oi := ?_) (v := ?_) ?_ (by kernel_rfl) (by kernel_rfl) (by kernel_rfl) ?_ ?_ (by assumption) ?_
      rotate_left 2
      · simp only [List.getElem?_toArray, List.getElem?_cons_succ, List.getElem?_cons_zero]; rfl
      · exact fun _ _ _ h => h
      · first
          | (refine Or.inr ⟨?_, ?_⟩ <;> rfl)
          | (refine Or.inl ⟨?_, ?_⟩; · rfl
             intro w hSw; (try dsimp only at hSw); go_simp; (try with_reducible rfl); done)
      try simp only [Act.put, List.setIfInBounds_toArray, List.set_cons_zero, List.set_cons_succ]
      refine wpAnyH_done (by kernel_rfl) ?_ _
      gi_wp2_with fail
      exact ⟨keepsFrom_below HB4.out _, HB4.out.mono zW, NnI.next HI.out HB4.out HNR.out⟩
    · have HMO := Lib.hid hmo
      clear hmo
      have HLM : Hid (∀ V, RwC V r2 g1 c1 g2 c2 (mvTo x y'.1 y'.2) → Calls Try.prog 67 #[.pointer (some ⟨r2, 0, none⟩)] V fun e w' => e = .returned (.int .i64 (lefS (mvTo x y'.1 y'.2) x.n)) ∧ Below V.heap.size V w') := fun V h => leftMoves_any r2 g1 c1 g2 c2 (mvTo x y'.1 y'.2) V hxn hxm h
      refine region_round (S := (fun w' => w'.cell? ⟨Bv, 0, none⟩ = some (.int .i64 y'.1) ∧ w'.cell? ⟨Bv, 1, none⟩ = some (.string y'.2) ∧ w'.cell? ⟨w1.heap.size, 0, none⟩ = some (.int .i64 (lefS x x.n)))) (by kernel_rfl) (by kernel_rfl) (fun h => (by obtain ⟨_, _, h⟩ := h; exact h)) ?_ (fun hHeld => ?_)
      · try dsimp only
        go_keep
      refine wpAnyH_take (i := 0) (oi := ?_) (v := ?_) ?_ (by kernel_rfl) (by kernel_rfl) (by kernel_rfl) ?_ ?_ (by assumption) ?_
      rotate_left 2
      · simp only [List.getElem?_toArray, List.getElem?_cons_succ, List.getElem?_cons_zero]; rfl
      · exact fun _ _ _ h => h
      · first
          | (refine Or.inr ⟨?_, ?_⟩ <;> rfl)
          | (refine Or.inl ⟨?_, ?_⟩; · rfl
             intro w hSw; (try dsimp only at hSw); go_simp; (try with_reducible rfl); done)
      try simp only [Act.put, List.setIfInBounds_toArray, List.set_cons_zero, List.set_cons_succ]
      refine wpAnyH_take (i := 1) (oi := ?_) (v := ?_) ?_ (by kernel_rfl) (by kernel_rfl) (by kernel_rfl) ?_ ?_ (by assumption) ?_
      rotate_left 2
      · simp only [List.getElem?_toArray, List.getElem?_cons_succ, List.getElem?_cons_zero]; rfl
      · exact fun _ _ _ h => h
      · first
          | (refine Or.inr ⟨?_, ?_⟩ <;> rfl)
          | (refine Or.inl ⟨?_, ?_⟩; · rfl
             intro w hSw; (try dsimp only at hSw); go_simp; (try with_reducible rfl); done)
      try simp only [Act.put, List.setIfInBounds_toArray, List.set_cons_zero, List.set_cons_succ]
      refine wpAnyH_ready (rs := [2]) (by kernel_rfl) (by simp) ?_
      refine AllReadyH.cons (o := ?_) ?_ (fun K hK => ?_) AllReadyH.nil
      rotate_left 1
      · simp only [List.getElem?_toArray, List.getElem?_cons_succ, List.getElem?_cons_zero]; rfl
      go_simp
      go_at_call 51
      go_must (refine Calls.mono (HMV.out _ (Below.refl _ v3).drew) ?_)
      rintro e v4 ⟨rfl, hr4, hb4⟩
      rw [HMO.out]
      rw [HMO.out, if_pos rfl] at hr4
      have HRM := Lib.hid hr4
      have HB4 : Hid (Below W.heap.size W v4) := HB3.out.drew.trans hb4
      have hxc4 := (HX.out.below HB4.out zx).cell
      have hcl4 := (HI.out.lf.below HB4.out z5).cell
      clear hb4 hxc hcl hr4
      refine hK.out _ _ ?_ (fun hHeld => ?_)
      · try dsimp only
        go_keep
      clear hK K
      try simp only [Act.put, List.setIfInBounds_toArray, List.set_cons_zero, List.set_cons_succ]
      refine wpAnyH_take (i := 3) (oi := ?_) (v := ?_) ?_ (by kernel_rfl) (by kernel_rfl) (by kernel_rfl) ?_ ?_ (by assumption) ?_
      rotate_left 2
      · simp only [List.getElem?_toArray, List.getElem?_cons_succ, List.getElem?_cons_zero]; rfl
      · exact fun _ _ _ h => h
      · first
          | (refine Or.inr ⟨?_, ?_⟩ <;> rfl)
          | (refine Or.inl ⟨?_, ?_⟩; · rfl
             intro w hSw; (try dsimp only at hSw); go_simp; (try with_reducible rfl); done)
      try simp only [Act.put, List.setIfInBounds_toArray, List.set_cons_zero, List.set_cons_succ]
      refine wpAnyH_take (i := 4) (oi := ?_) (v := ?_) ?_ (by kernel_rfl) (by kernel_rfl) (by kernel_rfl) ?_ ?_ (by assumption) ?_
      rotate_left 2
      · simp only [List.getElem?_toArray, List.getElem?_cons_succ, List.getElem?_cons_zero]; rfl
      · exact fun _ _ _ h => h
      · first
          | (refine Or.inr ⟨?_, ?_⟩ <;> rfl)
          | (refine Or.inl ⟨?_, ?_⟩; · rfl
             intro w hSw; (try dsimp only at hSw); go_simp; (try with_reducible rfl); done)
      try simp only [Act.put, List.setIfInBounds_toArray, List.set_cons_zero, List.set_cons_succ]
      refine wpAnyH_take (i := 6) (oi := ?_) (v := ?_) ?_ (by kernel_rfl) (by kernel_rfl) (by kernel_rfl) ?_ ?_ (by assumption) ?_
      rotate_left 2
      · simp only [List.getElem?_toArray, List.getElem?_cons_succ, List.getElem?_cons_zero]; rfl
      · exact fun _ _ _ h => h
      · first
          | (refine Or.inr ⟨?_, ?_⟩ <;> rfl)
          | (refine Or.inl ⟨?_, ?_⟩; · rfl
             intro w hSw; (try dsimp only at hSw); go_simp; (try with_reducible rfl); done)
      try simp only [Act.put, List.setIfInBounds_toArray, List.set_cons_zero, List.set_cons_succ]
      refine wpAnyH_ready (rs := [5]) (by kernel_rfl) (by simp) ?_
      refine AllReadyH.cons (o := ?_) ?_ (fun K hK => ?_) AllReadyH.nil
      rotate_left 1
      · simp only [List.getElem?_toArray, List.getElem?_cons_succ, List.getElem?_cons_zero]; rfl
      go_simp
      go_at_call 67
      go_must (refine Calls.mono (HLM.out _ HRM.out) ?_)
      rintro e v5 ⟨rfl, hb5⟩
      have HB5 : Hid (Below W.heap.size W v5) := HB4.out.trans (hb5.mono HB4.out.size)
      have HRM5 := Lib.hid (HRM.out.below hb5 (Nat.le_refl _))
      have hxc5 := (HX.out.below HB5.out zx).cell
      have hcl5 := (HI.out.lf.below HB5.out z5).cell
      clear hb5 hxc4 hcl4
      refine hK.out _ _ ?_ (fun hHeld => ?_)
      · try dsimp only
        go_keep
      clear hK K
      try simp only [Act.put, List.setIfInBounds_toArray, List.set_cons_zero, List.set_cons_succ]
      refine wpAnyH_take (i := 7) (oi := ?_) (v := ?_) ?_ (by kernel_rfl) (by kernel_rfl) (by kernel_rfl) ?_ ?_ (by assumption) ?_
      rotate_left 2
      · simp only [List.getElem?_toArray, List.getElem?_cons_succ, List.getElem?_cons_zero]; rfl
      · exact fun _ _ _ h => h
      · first
          | (refine Or.inr ⟨?_, ?_⟩ <;> rfl)
          | (refine Or.inl ⟨?_, ?_⟩; · rfl
             intro w hSw; (try dsimp only at hSw); go_simp; (try with_reducible rfl); done)
      try simp only [Act.put, List.setIfInBounds_toArray, List.set_cons_zero, List.set_cons_succ]
      refine wpAnyH_take (i := 8) (oi := ?_) (v := ?_) ?_ (by kernel_rfl) (by kernel_rfl) (by kernel_rfl) ?_ ?_ (by assumption) ?_
      rotate_left 2
      · simp only [List.getElem?_toArray, List.getElem?_cons_succ, List.getElem?_cons_zero]; rfl
      · exact fun _ _ _ h => h
      · first
          | (refine Or.inr ⟨?_, ?_⟩ <;> rfl)
          | (refine Or.inl ⟨?_, ?_⟩; · rfl
             intro w hSw; (try dsimp only at hSw); go_simp; (try with_reducible rfl); done)
      try simp only [Act.put, List.setIfInBounds_toArray, List.set_cons_zero, List.set_cons_succ]
      refine wpAnyH_done (by kernel_rfl) ?_ _
      by_cases hlt2 : lefS (mvTo x y'.1 y'.2) x.n < lefS x x.n
      · have HNR : Hid (nrB x y' = true) := by show _ = _; unfold nrB; rw [HMO.out, decide_eq_true hlt2]; rfl
        gi_wp2_with fail
        have HN5 := Lib.hid (HI.out.nn.below HB5.out)
        have HX5 := Lib.hid (HX.out.below HB5.out zx)
        have z4 := HI.out.nn.b4.lt
        have zB : w.heap.size + 1 + 1 + 1 < Bv := by have := HN3.out.b4.lt; omega
        have zR : W.heap.size ≤ r2 := hzv3
        have n1 : Bv ≠ w.heap.size + 1 ∧ Bv ≠ w.heap.size + 1 + 1 ∧ Bv ≠ w.heap.size + 1 + 1 + 1 := by omega
        have k2 := HN5.out.b2.cell
        have f2 := HN5.out.b2.free
        have k3 := HN5.out.b3.cell
        have f3 := HN5.out.b3.free
        have k4 := HN5.out.b4.cell
        have f4 := HN5.out.b4.free
        refine region_round (S := (fun w' => w'.cell? ⟨Bv, 0, none⟩ = some (.int .i64 y'.1) ∧ w'.cell? ⟨Bv, 1, none⟩ = some (.string y'.2))) (by kernel_rfl) (by kernel_rfl) (fun h => (by obtain ⟨_, _, h⟩ := h; exact h)) ?_ (fun hHeld => ?_)
        · try dsimp only
          go_keep
        refine wpAnyH_take (i := 0) (oi := ?_) (v := ?_) ?_ (by kernel_rfl) (by kernel_rfl) (by kernel_rfl) ?_ ?_ (by assumption) ?_
        rotate_left 2
        · simp only [List.getElem?_toArray, List.getElem?_cons_succ, List.getElem?_cons_zero]; rfl
        · exact fun _ _ _ h => h
        · first
            | (refine Or.inr ⟨?_, ?_⟩ <;> rfl)
            | (refine Or.inl ⟨?_, ?_⟩; · rfl
               intro w hSw; (try dsimp only at hSw); go_simp; (try with_reducible rfl); done)
        try simp only [Act.put, List.setIfInBounds_toArray, List.set_cons_zero, List.set_cons_succ]
        refine wpAnyH_take (i := 1) (oi := ?_) (v := ?_) ?_ (by kernel_rfl) (by kernel_rfl) (by kernel_rfl) ?_ ?_ (by assumption) ?_
        rotate_left 2
        · simp only [List.getElem?_toArray, List.getElem?_cons_succ, List.getElem?_cons_zero]; rfl
        · exact fun _ _ _ h => h
        · first
            | (refine Or.inr ⟨?_, ?_⟩ <;> rfl)
            | (refine Or.inl ⟨?_, ?_⟩; · rfl
               intro w hSw; (try dsimp only at hSw); go_simp; (try with_reducible rfl); done)
        try simp only [Act.put, List.setIfInBounds_toArray, List.set_cons_zero, List.set_cons_succ]
        have HXa : Hid (Bx (v5.drew.setCell ⟨w.heap.size + 1, 0, none⟩ (.pointer (some ⟨r2, 0, none⟩))) Bv 34 #[.int .i64 y'.1, .string y'.2]) := HX5.out.drew.setOther n1.1 _
        refine wpAnyH_ready (rs := [2]) (by kernel_rfl) (by simp) ?_
        refine AllReadyH.cons (o := ?_) ?_ (fun K hK => ?_) AllReadyH.nil
        rotate_left 1
        · simp only [List.getElem?_toArray, List.getElem?_cons_succ, List.getElem?_cons_zero]; rfl
        go_simp
        refine hK.out _ _ ?_ (fun hHeld => ?_)
        · try dsimp only
          exact ⟨HXa.out.cell 0, HXa.out.cell 1⟩
        clear hK K
        try simp only [Act.put, List.setIfInBounds_toArray, List.set_cons_zero, List.set_cons_succ]
        have HXb : Hid (Bx (((v5.drew.setCell ⟨w.heap.size + 1, 0, none⟩ (.pointer (some ⟨r2, 0, none⟩))).setCell ⟨w.heap.size + 1 + 1, 0, none⟩ (.int .i64 y'.1)).setCell ⟨w.heap.size + 1 + 1, 1, none⟩ (.string y'.2)) Bv 34 #[.int .i64 y'.1, .string y'.2]) := (HXa.out.setOther n1.2.1 _).setOther n1.2.1 _
        refine wpAnyH_ready (rs := [3]) (by kernel_rfl) (by simp) ?_
        refine AllReadyH.cons (o := ?_) ?_ (fun K hK => ?_) AllReadyH.nil
        rotate_left 1
        · simp only [List.getElem?_toArray, List.getElem?_cons_succ, List.getElem?_cons_zero]; rfl
        go_simp
        refine hK.out _ _ ?_ (fun hHeld => ?_)
        · try dsimp only
          exact ⟨HXb.out.cell 0, HXb.out.cell 1⟩
        clear hK K
        try simp only [Act.put, List.setIfInBounds_toArray, List.set_cons_zero, List.set_cons_succ]
        have HXc : Hid (Bx ((((v5.drew.setCell ⟨w.heap.size + 1, 0, none⟩ (.pointer (some ⟨r2, 0, none⟩))).setCell ⟨w.heap.size + 1 + 1, 0, none⟩ (.int .i64 y'.1)).setCell ⟨w.heap.size + 1 + 1, 1, none⟩ (.string y'.2)).setCell ⟨w.heap.size + 1 + 1 + 1, 0, none⟩ (.bool true)) Bv 34 #[.int .i64 y'.1, .string y'.2]) := HXb.out.setOther n1.2.2 _
        refine wpAnyH_ready (rs := [4]) (by kernel_rfl) (by simp) ?_
        refine AllReadyH.cons (o := ?_) ?_ (fun K hK => ?_) AllReadyH.nil
        rotate_left 1
        · simp only [List.getElem?_toArray, List.getElem?_cons_succ, List.getElem?_cons_zero]; rfl
        go_simp
        refine hK.out _ _ ?_ (fun hHeld => ?_)
        · try dsimp only
          exact ⟨HXc.out.cell 0, HXc.out.cell 1⟩
        clear hK K
        try simp only [Act.put, List.setIfInBounds_toArray, List.set_cons_zero, List.set_cons_succ]
        refine wpAnyH_done (by kernel_rfl) ?_ _
        have HFIN : Hid (NnX w w3 x .ret (pre ++ [y']) ((((v5.drew.setCell ⟨w.heap.size + 1, 0, none⟩ (.pointer (some ⟨r2, 0, none⟩))).setCell ⟨w.heap.size + 1 + 1, 0, none⟩ (.int .i64 y'.1)).setCell ⟨w.heap.size + 1 + 1, 1, none⟩ (.string y'.2)).setCell ⟨w.heap.size + 1 + 1 + 1, 0, none⟩ (.bool true))) := by
          have hl := (HI.out.nn.below HB5.out).bl
          refine ⟨rfl, y', .pointer (some ⟨r2, 0, none⟩), pre, rfl, HI.out.no, HNR.out, ?_, ?_, ?_, ⟨r2, g1, c1, g2, c2, rfl, ?_, by omega, by omega, by omega⟩, ?_⟩
          · have h0 : Bx (v5.drew.setCell ⟨w.heap.size + 1, 0, none⟩ (.pointer (some ⟨r2, 0, none⟩))) (w.heap.size + 1) 64 #[.pointer (some ⟨r2, 0, none⟩)] := by
              have := HN5.out.b2.drew.set 0 (.pointer (some ⟨r2, 0, none⟩))
              simpa using this
            exact ((h0.setOther (by dsimp only; omega) _).setOther (by dsimp only; omega) _).setOther (by dsimp only; omega) _
          · have h0 : Bx (v5.drew.setCell ⟨w.heap.size + 1, 0, none⟩ (.pointer (some ⟨r2, 0, none⟩))) (w.heap.size + 1 + 1) 34 #[.int .i64 0, .string ⟨#[]⟩] := HN5.out.b3.drew.setOther (by dsimp only; omega) _
            have h1 := bx2 h0 (.int .i64 y'.1) (.string y'.2)
            exact h1.setOther (by dsimp only; omega) _
          · have h0 : Bx (((v5.drew.setCell ⟨w.heap.size + 1, 0, none⟩ (.pointer (some ⟨r2, 0, none⟩))).setCell ⟨w.heap.size + 1 + 1, 0, none⟩ (.int .i64 y'.1)).setCell ⟨w.heap.size + 1 + 1, 1, none⟩ (.string y'.2)) (w.heap.size + 1 + 1 + 1) 4 #[.bool false] := ((HN5.out.b4.drew.setOther (by dsimp only; omega) _).setOther (by dsimp only; omega) _).setOther (by dsimp only; omega) _
            have := h0.set 0 (.bool true)
            simpa using this
          · exact (((HRM5.out.drew.setO (by omega) (by omega) (by omega) _).setO (by omega) (by omega) (by omega) _).setO (by omega) (by omega) (by omega) _).setO (by omega) (by omega) (by omega) _
          · exact (((hl.drew.setCell (p := ⟨w.heap.size + 1, 0, none⟩) (by dsimp only; omega) _).setCell (p := ⟨w.heap.size + 1 + 1, 0, none⟩) (by dsimp only; omega) _).setCell (p := ⟨w.heap.size + 1 + 1, 1, none⟩) (by dsimp only; omega) _).setCell (p := ⟨w.heap.size + 1 + 1 + 1, 0, none⟩) (by dsimp only; omega) _
        have HKF : Hid (KeepsFrom w3.heap.size W ((((v5.drew.setCell ⟨w.heap.size + 1, 0, none⟩ (.pointer (some ⟨r2, 0, none⟩))).setCell ⟨w.heap.size + 1 + 1, 0, none⟩ (.int .i64 y'.1)).setCell ⟨w.heap.size + 1 + 1, 1, none⟩ (.string y'.2)).setCell ⟨w.heap.size + 1 + 1 + 1, 0, none⟩ (.bool true))) := (((((((keepsFrom_below HB5.out w3.heap.size).trans (KeepsFrom.of_drew _ _)).trans ((KeepsOthers.setCell _ _ _).from _)).trans ((KeepsOthers.setCell _ _ _).from _)).trans ((KeepsOthers.setCell _ _ _).from _)).trans ((KeepsOthers.setCell _ _ _).from _)))
        gi_wp2_with fail
        exact ⟨HKF.out, HFIN.out⟩
      · have HNR : Hid (nrB x y' = false) := by show _ = _; unfold nrB; rw [decide_eq_false hlt2]; simp
        gi_wp2_with fail
        exact ⟨keepsFrom_below HB5.out _, HB5.out.mono zW, NnI.next HI.out HB5.out HNR.out⟩
  case done =>
    rintro D ys V hD rfl hi hK
    exfalso
    have hm : y ∈ mvsL x := List.mem_of_find?_eq_some HY.out
    have h2 : nrB x y = true := List.find?_some HY.out
    rw [hi.no y hm] at h2
    cases h2
  case stop =>
    rintro D c pre V hD hp ⟨rfl, y', s, pre', rfl, hno, hyes, q2, q3, q4, q5, q6⟩ hK
    have hyy : nearM x = some y' := near_first hp hno hyes
    have hye : y = y' := by rw [HY.out] at hyy; exact Option.some.inj hyy
    subst hye
    gi_wp2_with fail
    refine ⟨by simp, .inl ⟨_, _, rfl, run_takeDeferred hK, ?_⟩⟩
    have c2 := (bx_put q2 hK rfl (.deferred none)).cell 0
    have c3 := (bx_put q3 hK rfl (.deferred none)).cell 0
    have c3b := (bx_put q3 hK rfl (.deferred none)).cell 1
    have c4 := (bx_put q4 hK rfl (.deferred none)).cell 0
    obtain ⟨r2, g1, c1, g2, c2', rfl, hrw, z1, z2, z3⟩ := q5
    refine ⟨.tuple #[.pointer (some ⟨r2, 0, none⟩), .agg #[.int .i64 y.1, .string y.2], .bool true], ?_, ⟨_, rfl, r2, g1, c1, g2, c2', rfl, ⟨bx_put hrw.box hK rfl _, own_put hrw.bs hK rfl _, own_put hrw.ts hK rfl _, hrw.d1, hrw.d2, hrw.d3⟩, z1, z2, z3⟩, q6.trans (belowK_b (w := w) (Nat.le_refl _) V D _ _ (by have := HN3.out.bl.size; omega) hK rfl rfl)⟩
    clear q2 q3 q4 hrw z1 z2 z3
    simp [results, Try.results68, go_sem, c2, c3, c3b, c4]
end Go.Proofs.Ytbachpfgakjncaa
