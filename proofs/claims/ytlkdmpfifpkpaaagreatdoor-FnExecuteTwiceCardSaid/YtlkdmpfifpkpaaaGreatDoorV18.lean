/-
  Parts of the proof: Na Nb. No condition.
-/
import Derived.Shelf.RegionOpen
import Derived.Test.YtlkdmpfifpkpaaaGreatDoorV17
namespace Go.Proofs.YtlkdmpfifpkpaaaGreatDoor
open Go.RowKit
def nrB (x : Ln) (y : Int × ByteArray) : Bool := mvOk x y.1 y.2 && decide (lefS (mvTo x y.1 y.2) x.n < lefS x x.n)
def nearM (x : Ln) : Option (Int × ByteArray) := (mvsL x).find? (nrB x)
theorem nearM_some {x : Ln} (hv : vldL x = true) (h0 : 0 < lefS x x.n) : ∃ y, nearM x = some y ∧ nrB x y = true := by
 obtain ⟨y, hy, ho, hl⟩ := near_ex hv h0
 have hb : nrB x y = true := by unfold nrB; rw [ho, decide_eq_true hl]; rfl
 cases e : nearM x with
 | none =>
  have := List.find?_eq_none.1 e y hy
  exact absurd hb this
 | some z => exact ⟨z, rfl, List.find?_some e⟩
theorem near_first {x : Ln} {pre : List (Int × ByteArray)} {y : Int × ByteArray} (hp : pre ++ [y] <+: mvsL x) (h1 : ∀ z, z ∈ pre → nrB x z = false) (h2 : nrB x y = true) : nearM x = some y := by
 obtain ⟨t, ht⟩ := hp
 unfold nearM
 rw [← ht, List.append_assoc, List.find?_append]
 rw [List.find?_eq_none.2 (fun z hz => by rw [h1 z hz]; simp)]
 simp [h2]
structure NnM (w wr : World) (r : Nat) : Prop where
  b1 : Bx wr w.heap.size 174 #[.pointer (some ⟨r, 0, none⟩)]
  b2 : Bx wr (w.heap.size + 1) 174 #[.pointer none]
  b3 : Bx wr (w.heap.size + 1 + 1) 94 #[.int .i64 0, .string ⟨#[]⟩]
  b4 : Bx wr (w.heap.size + 1 + 1 + 1) 4 #[.bool false]
  bl : Below w.heap.size w wr
theorem NnM.below {w wr w' : World} {r : Nat} (h : NnM w wr r) (hb : Below wr.heap.size wr w') : NnM w w' r :=
 ⟨h.b1.below hb h.b1.lt, h.b2.below hb h.b2.lt, h.b3.below hb h.b3.lt, h.b4.below hb h.b4.lt, h.bl.trans (hb.mono h.bl.size)⟩
structure NnI (w w3 : World) (r B5 : Nat) (x : Ln) (pre : List (Int × ByteArray)) (W : World) : Prop where
  no : ∀ z, z ∈ pre → nrB x z = false
  nn : NnM w W r
  lf : Bx W B5 3 #[.int .i64 (lefS x x.n)]
  bl : Below w3.heap.size w3 W
theorem NnI.below {w w3 W W' : World} {r B5 : Nat} {x : Ln} {pre : List (Int × ByteArray)} (h : NnI w w3 r B5 x pre W) (hb : Below W.heap.size W W') : NnI w w3 r B5 x pre W' :=
 ⟨h.no, h.nn.below hb, h.lf.below hb h.lf.lt, h.bl.trans (hb.mono h.bl.size)⟩
theorem NnI.next {w w3 W W' : World} {r B5 : Nat} {x : Ln} {pre : List (Int × ByteArray)} {y : Int × ByteArray} (h : NnI w w3 r B5 x pre W) (hb : Below W.heap.size W W') (hy : nrB x y = false) : NnI w w3 r B5 x (pre ++ [y]) W' := by
 have h2 := h.below hb
 exact ⟨fun z hz => by
  rcases List.mem_append.1 hz with hz | hz
  ·exact h.no z hz
  ·rw [List.mem_singleton.1 hz]; exact hy, h2.nn, h2.lf, h2.bl⟩
theorem keepsFrom_below {W W' : World} (hb : Below W.heap.size W W') (B : Nat) : KeepsFrom B W W' := (KeepsOthers.of_grownBy (grownBy_below hb none) (fun j o e _ => by cases e)).from _
def NnX (w _w3 : World) (x : Ln) (c : Code) (pre : List (Int × ByteArray)) (W : World) : Prop :=
 c = .ret ∧ ∃ y s pre', pre = pre' ++ [y] ∧ (∀ z, z ∈ pre' → nrB x z = false) ∧ nrB x y = true ∧ Bx W (w.heap.size + 1) 174 #[s] ∧ Bx W (w.heap.size + 1 + 1) 94 #[.int .i64 y.1, .string y.2] ∧ Bx W (w.heap.size + 1 + 1 + 1) 4 #[.bool true] ∧ RwN w.heap.size W s (mvTo x y.1 y.2) ∧ Below w.heap.size w W
theorem RwC.setO {w : World} {r gb cb gt ct : Nat} {x : Ln} (h : RwC w r gb cb gt ct x) {b o : Nat} (h1 : b ≠ r) (h2 : b ≠ gb) (h3 : b ≠ gt) (u : Value) : RwC (w.setCell ⟨b, o, none⟩ u) r gb cb gt ct x :=
 ⟨h.box.setOther (fun e => h1 e.symm) _, h.bs.setOther (fun e => h2 e.symm) _, h.ts.setOther (fun e => h3 e.symm) _, h.d1, h.d2, h.d3⟩
theorem bx_put {V : World} {b D : Nat} {t : TypeId} {cs : Array Value} {o : Obj} (h : Bx V b t cs) (hD : V.heap[D]? = some o) (ho : o.isCells = false) (o' : Obj) : Bx (V.putObj D o') b t cs :=
 h.of_block ((grownBy_putObj' V D o').block b h.lt (fun e => by
  cases e
  rw [show V.heap[b]? = _ from h] at hD
  cases hD
  cases ho))
theorem own_put {V : World} {g cap n s D : Nat} {t : TypeId} {f : Nat → Value} {o : Obj} (h : Own V g cap n s t f) (hD : V.heap[D]? = some o) (ho : o.isCells = false) (o' : Obj) : Own (V.putObj D o') g cap n s t f := by
 have h0 := h
 obtain ⟨_, _, cur, hg, _⟩ := h0
 refine h.of_block ((grownBy_putObj' V D o').block g h.lt (fun e => ?_))
 cases e
 rw [hg] at hD
 cases hD
 cases ho
theorem own_notrow {W : World} {g cap n s B : Nat} {t : TypeId} {f : Nat → Value} {row : Option Nat} (h : Own W g cap n s t f) (hr : ∀ r, row = some r → B ≤ r ∧ ∃ o : Obj, W.heap[r]? = some o ∧ o.isCells = false) : row ≠ some g := fun e => by
 obtain ⟨_, o, ho, hc⟩ := hr g e
 obtain ⟨_, _, cur, hg, _⟩ := h
 rw [hg] at ho
 cases ho
 cases hc
theorem below_gr {B R : Nat} {w0 w w' : World} {row : Option Nat} (h : Below B w0 w) (hg : w.grownBy w' row) (hr : ∀ c, row = some c → R ≤ c ∧ ∃ o : Obj, w.heap[c]? = some o ∧ o.isCells = false) (hR : B ≤ R) (hB : B ≤ w0.heap.size) : Below B w0 w' := by
 refine h.trans ⟨hg.os, hg.tape, hg.output, hg.size, fun k hk => hg.block k (Nat.lt_of_lt_of_le hk (Nat.le_trans hB h.size)) (fun e => ?_)⟩
 have := (hr k e.symm).1
 omega
theorem Bx.gr {W W' : World} {b B : Nat} {t : TypeId} {cs : Array Value} {row : Option Nat} (h : Bx W b t cs) (hg : W.grownBy W' row) (hr : ∀ r, row = some r → B ≤ r ∧ ∃ o : Obj, W.heap[r]? = some o ∧ o.isCells = false) : Bx W' b t cs := h.of_block (hg.block b h.lt (fun e => bx_notrow h hr e.symm))
theorem Own.gr {W W' : World} {g cap n s B : Nat} {t : TypeId} {f : Nat → Value} {row : Option Nat} (h : Own W g cap n s t f) (hg : W.grownBy W' row) (hr : ∀ r, row = some r → B ≤ r ∧ ∃ o : Obj, W.heap[r]? = some o ∧ o.isCells = false) : Own W' g cap n s t f := h.of_block (hg.block g h.lt (fun e => own_notrow h hr e.symm))
theorem NnM.gr {w wr w' : World} {r B : Nat} {row : Option Nat} (h : NnM w wr r) (hg : wr.grownBy w' row) (hr : ∀ c, row = some c → B ≤ c ∧ ∃ o : Obj, wr.heap[c]? = some o ∧ o.isCells = false) (hB : w.heap.size ≤ B) : NnM w w' r :=
 ⟨h.b1.gr hg hr, h.b2.gr hg hr, h.b3.gr hg hr, h.b4.gr hg hr, below_gr h.bl hg hr hB (Nat.le_refl _)⟩
theorem RwC.gr {w w' : World} {r gb cb gt ct B : Nat} {x : Ln} {row : Option Nat} (h : RwC w r gb cb gt ct x) (hg : w.grownBy w' row) (hr : ∀ c, row = some c → B ≤ c ∧ ∃ o : Obj, w.heap[c]? = some o ∧ o.isCells = false) : RwC w' r gb cb gt ct x :=
 ⟨h.box.gr hg hr, h.bs.gr hg hr, h.ts.gr hg hr, h.d1, h.d2, h.d3⟩
theorem KeepsFrom.of_drew (W : World) (B : Nat) : KeepsFrom B W W.drew := keepsFrom_below (Below.refl _ W).drew B
attribute [local go_sem] Oper.semAt_some
set_option linter.unusedSimpArgs false in
set_option maxRecDepth 100000 in
set_option maxHeartbeats 4000000 in
theorem nextNearer_in (n : Nat) (hn : 6 ≤ n) (r gb cb gt ct : Nat) (x : Ln) (y : Int × ByteArray) (hy : nearM x = some y) (hxn : x.n ≤ 1000) (hxm : x.m ≤ 1000) (w : World) (hr : RwC w r gb cb gt ct x) :
    CallsIn Fence.wide n Tryz.prog 145 #[.pointer (some ⟨r, 0, none⟩)] w fun e W' => (∃ s, e = .returned (.tuple #[s, .agg #[.int .i64 y.1, .string y.2], .bool true]) ∧ RwN w.heap.size W' s (mvTo x y.1 y.2)) ∧ Below w.heap.size w W' := by
  have h1 : 1 ≤ n := by omega
  have HR := Lib.hid hr
  have HY := Lib.hid hy
  clear hr hy
  refine callsIn_of_wp_marks Tryz.func145 rfl trivial ?_ rfl
  simp only [Tryz.ntmps145, List.size_toArray, List.length_cons, List.length_nil, Nat.reduceAdd, Nat.reduceSub, Array.replicate_succ, Array.replicate_zero, List.push_toArray, List.append_toArray, List.nil_append, List.cons_append]
  gi_wp2
  refine ⟨trivial, ?_⟩
  have HN0 : Hid (NnM w ((((w.alloc (.cells #[.pointer (some ⟨r, 0, none⟩)] 174)).alloc (.cells #[.pointer none] 174)).alloc (.cells #[.int .i64 0, .string ⟨#[]⟩] 94)).alloc (.cells #[.bool false] 4)) r) :=
   ⟨(((Bx.new _ _ _).alloc _).alloc _).alloc _, ((Bx.newAt (by simp)).alloc _).alloc _, (Bx.newAt (by simp)).alloc _, Bx.newAt (by simp), (((below_all _ _).alloc (by simp) _).alloc (by simp; omega) _).alloc (by simp; omega) _⟩
  have HR0 := Lib.hid (HR.out.below HN0.out.bl (Nat.le_refl _))
  generalize (((w.alloc (.cells #[.pointer (some ⟨r, 0, none⟩)] 174)).alloc (.cells #[.pointer none] 174)).alloc (.cells #[.int .i64 0, .string ⟨#[]⟩] 94)).alloc (.cells #[.bool false] 4) = w0 at *
  refine (callsIn_wide.2 (leftMoves_any r gb cb gt ct x _ hxn hxm HR0.out)).mono ?_
  rintro e w1 ⟨rfl, hb1⟩
  have HN1 := Lib.hid (HN0.out.below hb1)
  have HR1 := Lib.hid (HR0.out.below hb1 (Nat.le_refl _))
  have hc1 := HN1.out.b1.cell
  have hl1 := HN1.out.b1.lt
  clear hb1
  gi_wp2
  refine ⟨trivial, ?_⟩
  have HN2 : Hid (NnM w (w1.alloc (.cells #[.int .i64 (lefS x x.n)] 3)) r) := HN1.out.below (below_all _ _)
  have HR2 : Hid (RwC (w1.alloc (.cells #[.int .i64 (lefS x x.n)] 3)) r gb cb gt ct x) := HR1.out.below (below_all _ _) (Nat.le_refl _)
  have HL2 : Hid (Bx (w1.alloc (.cells #[.int .i64 (lefS x x.n)] 3)) w1.heap.size 3 #[.int .i64 (lefS x x.n)]) := Bx.new _ _ _
  have hz1 : w.heap.size + 4 ≤ w1.heap.size := by have := HN1.out.b4.lt; omega
  clear hc1 hl1
  generalize w1.alloc (.cells #[.int .i64 (lefS x x.n)] 3) = w2 at *
  refine (callsIn_wide.2 (moves_any _ _)).mono ?_
  rintro e w3 ⟨rfl, rfl⟩
  have HN3 : Hid (NnM w (w2.alloc (.cells #[.pointer (some ⟨r, 0, none⟩)] 174)) r) := HN2.out.below (below_all _ _)
  have HR3 : Hid (RwC (w2.alloc (.cells #[.pointer (some ⟨r, 0, none⟩)] 174)) r gb cb gt ct x) := HR2.out.below (below_all _ _) (Nat.le_refl _)
  have HL3 : Hid (Bx (w2.alloc (.cells #[.pointer (some ⟨r, 0, none⟩)] 174)) w1.heap.size 3 #[.int .i64 (lefS x x.n)]) := HL2.out.alloc _
  have HS3 : Hid (Bx (w2.alloc (.cells #[.pointer (some ⟨r, 0, none⟩)] 174)) w2.heap.size 174 #[.pointer (some ⟨r, 0, none⟩)]) := Bx.new _ _ _
  gi_wp2
  generalize w2.alloc (.cells #[.pointer (some ⟨r, 0, none⟩)] 174) = w3 at *
  have hz3 : w1.heap.size < w3.heap.size ∧ w2.heap.size < w3.heap.size ∧ w.heap.size ≤ w1.heap.size := ⟨HL3.out.lt, HS3.out.lt, by omega⟩
  obtain ⟨zl, zs, zw⟩ := hz3
  have zw' : w.heap.size ≤ w3.heap.size := by omega
  have zr : r < w3.heap.size ∧ gb < w3.heap.size ∧ gt < w3.heap.size := ⟨HR3.out.box.lt, HR3.out.bs.lt, HR3.out.ts.lt⟩
  refine wpIn_rangeFunc_ownH rfl h1 (gf := 166) (lb := #[.pointer (some ⟨w2.heap.size, 0, none⟩)]) rfl trivial (enters_of Tryz.func166 (by kernel_rfl) rfl)
    (mvs_stops (n - 1) (by omega) w2.heap.size r gb cb gt ct x (by omega) (by omega) w3.heap.size w3 (Nat.le_refl _) (HS3.out.cell 0) zs HR3.out zr.1 zr.2.1 zr.2.2) belowK_t (belowK_b (Nat.le_refl _)) (Below.refl _ _) (fun _ => rfl)
    (fun pre W => NnI w w3 r w1.heap.size x pre W)
    (fun c pre W => NnX w w3 x c pre W)
    ?hI ?hIx ?h0
    (fun y a' W => ∃ Bv, w3.heap.size ≤ Bv ∧ Bx W Bv 94 #[.int .i64 y.1, .string y.2] ∧ a' = { tmps := #[.pointer (some ⟨r, 0, none⟩), .pointer (some ⟨w.heap.size, 0, none⟩), .pointer (some ⟨w.heap.size + 1, 0, none⟩), .pointer (some ⟨w.heap.size + 1 + 1, 0, none⟩), .pointer (some ⟨w.heap.size + 1 + 1 + 1, 0, none⟩), .pointer (some ⟨w1.heap.size, 0, none⟩), .pointer (some ⟨Bv, 0, none⟩), undef, .pointer (some ⟨r, 0, none⟩), .int .i64 (lefS x x.n), .pointer (some ⟨r, 0, none⟩), .func (.func 166) #[] #[.pointer (some ⟨w2.heap.size, 0, none⟩)], .agg #[.int .i64 y.1, .string y.2], undef, undef, undef, undef, undef, undef, undef, undef, undef, undef, undef, undef, undef, undef, undef, undef, undef, undef, undef, undef, undef, undef, undef, undef, undef], defers := [] })
    (fun y a' s A B row hs hg hr => by
     obtain ⟨Bv, q1, q2, q3⟩ := hs
     exact ⟨Bv, q1, q2.of_block (hg.block Bv q2.lt (fun e => bx_notrow q2 hr e.symm)), q3⟩) ?assign ?body ?done ?stop
  case hI =>
   intro s A B row hs hg hr
   exact ⟨hs.no, hs.nn.gr hg hr zw', hs.lf.gr hg hr, below_gr hs.bl hg hr (Nat.le_refl _) (Nat.le_refl _)⟩
  case hIx =>
   intro c s A B row hs hg hr
   obtain ⟨a1, y', s', pre', a2, a3, a4, a5, a6, a7, ⟨r2, g1, c1, g2, c2, e, b1, b2, b3, b4⟩, a9⟩ := hs
   exact ⟨a1, y', s', pre', a2, a3, a4, a5.gr hg hr, a6.gr hg hr, a7.gr hg hr, ⟨r2, g1, c1, g2, c2, e, b1.gr hg hr, b2, b3, b4⟩, below_gr a9 hg hr zw' (Nat.le_refl _)⟩
  case h0 =>
   exact ⟨fun z h => (by cases h), HN3.out, HL3.out, Below.refl _ _⟩
  case assign =>
   rintro l pre y W K hi hK
   gi_wp2
   exact hK _ _ ((KeepsOthers.alloc _ _).from _) ((Below.refl _ W).alloc hi.bl.size _) (hi.below (below_all _ _)) ⟨W.heap.size, hi.bl.size, Bx.new _ _ _, rfl⟩
  case body =>
   rintro l pre y' a' W hl ⟨r', hr'⟩ hi ⟨Bv, hBv, bX, rfl⟩ hlt
   have HI := Lib.hid hi
   have HX := Lib.hid bX
   have HRW := Lib.hid (HR3.out.belowN hi.bl zr.1 zr.2.1 zr.2.2)
   have hc1 := hi.nn.b1.cell
   have hcl := hi.lf.cell
   have hxc := bX.cell
   have hrc := HRW.out.box.cell
   clear hi bX
   have HW : Hid (Below W.heap.size W W) := Below.refl _ _
   have zx := HX.out.lt
   have z1 := HI.out.nn.b1.lt
   have z5 := HI.out.lf.lt
   have zrr := HRW.out.box.lt
   gi_wp2_with fail
   refine region_round (S := (fun w' => w'.cell? ⟨w.heap.size, 0, none⟩ = some (.pointer (some ⟨r, 0, none⟩)) ∧ w'.cell? ⟨r, 0, none⟩ = some (.slice (some ⟨gb, 0, none⟩) x.n cb) ∧ w'.cell? ⟨r, 1, none⟩ = some (.slice (some ⟨gt, 0, none⟩) x.m ct))) (by kernel_rfl) (by kernel_rfl) (fun h => (by obtain ⟨_, _, h⟩ := h; exact h)) ?_ (fun hHeld => ?_)
   ·try dsimp only
    go_keep
   refine tkR 0 ?_
   refine tkR 1 ?_
   refine tkR 2 ?_
   refine tkR 3 ?_
   refine tkR 5 ?_
   refine tkR 6 ?_
   refine tkR 7 ?_
   refine tkR 8 ?_
   refine r1R 4 (fun K hK => ?_)
   go_simp
   go_at_call 164
   go_must (refine Calls.mono (cloneBs_any gb 0 x.n cb x.N x.I x.O _ (by omega) (BkC.of_own (HRW.out.drew.bs))) ?_)
   rintro e v1 ⟨g1, c1, rfl, hg1, ho1, hb1⟩
   replace hb1 : Below W.heap.size W v1 := (Below.refl _ W).drew.trans hb1
   have hg1' : W.heap.size ≤ g1 := hg1
   have HO1 := Lib.hid ho1
   have HB1 := Lib.hid hb1
   have HRV := Lib.hid (HRW.out.below hb1 (Nat.le_refl _))
   have hc1v := (HI.out.nn.below hb1).b1.cell
   have hrcv := HRV.out.box.cell
   have hzv1 : W.heap.size ≤ v1.heap.size := hb1.size
   clear ho1 hb1 hg1 hc1 hrc
   refine oR hK ?_ (fun hHeld => ?_)
   ·try dsimp only
    go_keep
   clear hK K
   refine r1R 9 (fun K hK => ?_)
   go_simp
   go_at_call 158
   go_must (refine Calls.mono (clone_any gt 0 x.m ct x.T _ (by omega) (HRV.out.ic)) ?_)
   rintro e v2 ⟨g2, c2, rfl, hg2, ho2, hb2⟩
   have HO2 := Lib.hid ho2
   have HT := Lib.hid (rw_two HO1.out hb2 hg2)
   have HB2 := Lib.hid (HB1.out.trans (hb2.mono (by omega)))
   have hc1w := (HI.out.nn.below HB2.out).b1.cell
   have hrcw := (HRW.out.below HB2.out (Nat.le_refl _)).box.cell
   have hzv2 : v1.heap.size ≤ v2.heap.size := hb2.size
   have hg2' : W.heap.size ≤ g2 := by omega
   clear ho2 hb2 hg2 hc1v hrcv
   refine oR hK ?_ (fun hHeld => ?_)
   ·try dsimp only
    go_keep
   clear hK K
   refine tkR 10 ?_
   refine r1R 11 (fun K hK => ?_)
   go_simp
   skip
   refine oR hK ?_ (fun hHeld => ?_)
   ·try dsimp only
    go_keep
   clear hK K
   refine tkR 12 ?_
   refine wpAnyH_done (by kernel_rfl) ?_ _
   have HM : Hid (RwC (v2.alloc (.cells #[.slice (some ⟨g1, 0, none⟩) x.n c1, .slice (some ⟨g2, 0, none⟩) x.m c2] 195)) v2.heap.size g1 c1 g2 c2 x) := by
    obtain ⟨a1, a2, a3⟩ := HT.out
    exact ⟨Bx.new _ _ _, a1.alloc _, HO2.out.alloc _, a2, by omega, by have := HO2.out.lt; omega⟩
   have HB3 : Hid (Below W.heap.size W (v2.alloc (.cells #[.slice (some ⟨g1, 0, none⟩) x.n c1, .slice (some ⟨g2, 0, none⟩) x.m c2] 195))) := HB2.out.alloc HB2.out.size _
   have hzv3 : W.heap.size ≤ v2.heap.size := by omega
   clear HT HO1 HO2 hc1w hrcw
   generalize hv3 : v2.alloc (.cells #[.slice (some ⟨g1, 0, none⟩) x.n c1, .slice (some ⟨g2, 0, none⟩) x.m c2] 195) = v3 at *
   clear hv3
   generalize v2.heap.size = r2 at *
   have hxc := (HX.out.below HB3.out zx).cell
   have hcl := (HI.out.lf.below HB3.out z5).cell
   gi_wp2_with fail
   have HMV : Hid (∀ V, Below v3.heap.size v3 V → Calls Tryz.prog 142 #[.pointer (some ⟨r2, 0, none⟩), .agg #[.int .i64 y'.1, .string y'.2]] V (MvR W.heap.size r2 g1 c1 g2 c2 x y'.1 y'.2 V)) := fun V hV =>
    move_any W.heap.size r2 g1 c1 g2 c2 x y'.1 y'.2 V (by omega) (by omega) (HM.out.below hV (Nat.le_refl _)) ⟨hg1', hg2', by have := HB3.out.size; have := hV.size; omega⟩
   have zW : w3.heap.size ≤ W.heap.size := HI.out.bl.size
   cases hmo : mvOk x y'.1 y'.2
   ·have HNR : Hid (nrB x y' = false) := by show _ = _; unfold nrB; rw [hmo]; rfl
    have HMO := Lib.hid hmo
    clear hmo
    refine region_round (S := (fun w' => w'.cell? ⟨Bv, 0, none⟩ = some (.int .i64 y'.1) ∧ w'.cell? ⟨Bv, 1, none⟩ = some (.string y'.2) ∧ w'.cell? ⟨w1.heap.size, 0, none⟩ = some (.int .i64 (lefS x x.n)))) (by kernel_rfl) (by kernel_rfl) (fun h => (by obtain ⟨_, _, h⟩ := h; exact h)) ?_ (fun hHeld => ?_)
    ·try dsimp only
     go_keep
    refine tkR 0 ?_
    refine tkR 1 ?_
    refine r1R 2 (fun K hK => ?_)
    go_simp
    go_at_call 142
    go_must (refine Calls.mono (HMV.out _ (Below.refl _ v3).drew) ?_)
    rintro e v4 ⟨rfl, _, hb4⟩
    rw [HMO.out]
    have HB4 : Hid (Below W.heap.size W v4) := HB3.out.drew.trans hb4
    have hxc4 := (HX.out.below HB4.out zx).cell
    have hcl4 := (HI.out.lf.below HB4.out z5).cell
    clear hb4 hxc hcl
    refine oR hK ?_ (fun hHeld => ?_)
    ·try dsimp only
     go_keep
    clear hK K
    refine tkR 3 ?_
    refine tkR 4 ?_
    refine tkR 5 ?_
    refine tkR 6 ?_
    refine tkR 7 ?_
    refine tkR 8 ?_
    refine wpAnyH_done (by kernel_rfl) ?_ _
    gi_wp2_with fail
    exact ⟨keepsFrom_below HB4.out _, HB4.out.mono zW, NnI.next HI.out HB4.out HNR.out⟩
   ·have HMO := Lib.hid hmo
    clear hmo
    have HLM : Hid (∀ V, RwC V r2 g1 c1 g2 c2 (mvTo x y'.1 y'.2) → Calls Tryz.prog 144 #[.pointer (some ⟨r2, 0, none⟩)] V fun e w' => e = .returned (.int .i64 (lefS (mvTo x y'.1 y'.2) x.n)) ∧ Below V.heap.size V w') := fun V h => leftMoves_any r2 g1 c1 g2 c2 (mvTo x y'.1 y'.2) V hxn hxm h
    refine region_round (S := (fun w' => w'.cell? ⟨Bv, 0, none⟩ = some (.int .i64 y'.1) ∧ w'.cell? ⟨Bv, 1, none⟩ = some (.string y'.2) ∧ w'.cell? ⟨w1.heap.size, 0, none⟩ = some (.int .i64 (lefS x x.n)))) (by kernel_rfl) (by kernel_rfl) (fun h => (by obtain ⟨_, _, h⟩ := h; exact h)) ?_ (fun hHeld => ?_)
    ·try dsimp only
     go_keep
    refine tkR 0 ?_
    refine tkR 1 ?_
    refine r1R 2 (fun K hK => ?_)
    go_simp
    go_at_call 142
    go_must (refine Calls.mono (HMV.out _ (Below.refl _ v3).drew) ?_)
    rintro e v4 ⟨rfl, hr4, hb4⟩
    rw [HMO.out]
    rw [HMO.out, if_pos rfl] at hr4
    have HRM := Lib.hid hr4
    have HB4 : Hid (Below W.heap.size W v4) := HB3.out.drew.trans hb4
    have hxc4 := (HX.out.below HB4.out zx).cell
    have hcl4 := (HI.out.lf.below HB4.out z5).cell
    clear hb4 hxc hcl hr4
    refine oR hK ?_ (fun hHeld => ?_)
    ·try dsimp only
     go_keep
    clear hK K
    refine tkR 3 ?_
    refine tkR 4 ?_
    refine tkR 6 ?_
    refine r1R 5 (fun K hK => ?_)
    go_simp
    go_at_call 144
    go_must (refine Calls.mono (HLM.out _ HRM.out) ?_)
    rintro e v5 ⟨rfl, hb5⟩
    have HB5 : Hid (Below W.heap.size W v5) := HB4.out.trans (hb5.mono HB4.out.size)
    have HRM5 := Lib.hid (HRM.out.below hb5 (Nat.le_refl _))
    have hxc5 := (HX.out.below HB5.out zx).cell
    have hcl5 := (HI.out.lf.below HB5.out z5).cell
    clear hb5 hxc4 hcl4
    refine oR hK ?_ (fun hHeld => ?_)
    ·try dsimp only
     go_keep
    clear hK K
    refine tkR 7 ?_
    refine tkR 8 ?_
    refine wpAnyH_done (by kernel_rfl) ?_ _
    by_cases hlt2 : lefS (mvTo x y'.1 y'.2) x.n < lefS x x.n
    ·have HNR : Hid (nrB x y' = true) := by show _ = _; unfold nrB; rw [HMO.out, decide_eq_true hlt2]; rfl
     gi_wp2_with fail
     have HN5 := Lib.hid (HI.out.nn.below HB5.out)
     have HX5 := Lib.hid (HX.out.below HB5.out zx)
     have z4 := HI.out.nn.b4.lt
     have zB : w.heap.size + 1 + 1 + 1 < Bv := by have := HN3.out.b4.lt; omega
     have zR : W.heap.size ≤ r2 := hzv3
     have n1 : Bv ≠ w.heap.size + 1 ∧ Bv ≠ w.heap.size + 1 + 1 ∧ Bv ≠ w.heap.size + 1 + 1 + 1 := by omega
     have k2 := HN5.out.b2.cell
     have f2 := HN5.out.b2.free
     have k3 := HN5.out.b3.cell
     have f3 := HN5.out.b3.free
     have k4 := HN5.out.b4.cell
     have f4 := HN5.out.b4.free
     refine region_round (S := (fun w' => w'.cell? ⟨Bv, 0, none⟩ = some (.int .i64 y'.1) ∧ w'.cell? ⟨Bv, 1, none⟩ = some (.string y'.2))) (by kernel_rfl) (by kernel_rfl) (fun h => (by obtain ⟨_, _, h⟩ := h; exact h)) ?_ (fun hHeld => ?_)
     ·try dsimp only
      go_keep
     refine tkR 0 ?_
     refine tkR 1 ?_
     have HXa : Hid (Bx (v5.drew.setCell ⟨w.heap.size + 1, 0, none⟩ (.pointer (some ⟨r2, 0, none⟩))) Bv 94 #[.int .i64 y'.1, .string y'.2]) := HX5.out.drew.setOther n1.1 _
     refine r1R 2 (fun K hK => ?_)
     go_simp
     refine oR hK ?_ (fun hHeld => ?_)
     ·try dsimp only
      exact ⟨HXa.out.cell 0, HXa.out.cell 1⟩
     clear hK K
     have HXb : Hid (Bx (((v5.drew.setCell ⟨w.heap.size + 1, 0, none⟩ (.pointer (some ⟨r2, 0, none⟩))).setCell ⟨w.heap.size + 1 + 1, 0, none⟩ (.int .i64 y'.1)).setCell ⟨w.heap.size + 1 + 1, 1, none⟩ (.string y'.2)) Bv 94 #[.int .i64 y'.1, .string y'.2]) := (HXa.out.setOther n1.2.1 _).setOther n1.2.1 _
     refine r1R 3 (fun K hK => ?_)
     go_simp
     refine oR hK ?_ (fun hHeld => ?_)
     ·try dsimp only
      exact ⟨HXb.out.cell 0, HXb.out.cell 1⟩
     clear hK K
     have HXc : Hid (Bx ((((v5.drew.setCell ⟨w.heap.size + 1, 0, none⟩ (.pointer (some ⟨r2, 0, none⟩))).setCell ⟨w.heap.size + 1 + 1, 0, none⟩ (.int .i64 y'.1)).setCell ⟨w.heap.size + 1 + 1, 1, none⟩ (.string y'.2)).setCell ⟨w.heap.size + 1 + 1 + 1, 0, none⟩ (.bool true)) Bv 94 #[.int .i64 y'.1, .string y'.2]) := HXb.out.setOther n1.2.2 _
     refine r1R 4 (fun K hK => ?_)
     go_simp
     refine oR hK ?_ (fun hHeld => ?_)
     ·try dsimp only
      exact ⟨HXc.out.cell 0, HXc.out.cell 1⟩
     clear hK K
     refine wpAnyH_done (by kernel_rfl) ?_ _
     have HFIN : Hid (NnX w w3 x .ret (pre ++ [y']) ((((v5.drew.setCell ⟨w.heap.size + 1, 0, none⟩ (.pointer (some ⟨r2, 0, none⟩))).setCell ⟨w.heap.size + 1 + 1, 0, none⟩ (.int .i64 y'.1)).setCell ⟨w.heap.size + 1 + 1, 1, none⟩ (.string y'.2)).setCell ⟨w.heap.size + 1 + 1 + 1, 0, none⟩ (.bool true))) := by
      have hl := (HI.out.nn.below HB5.out).bl
      refine ⟨rfl, y', .pointer (some ⟨r2, 0, none⟩), pre, rfl, HI.out.no, HNR.out, ?_, ?_, ?_, ⟨r2, g1, c1, g2, c2, rfl, ?_, by omega, by omega, by omega⟩, ?_⟩
      ·have h0 : Bx (v5.drew.setCell ⟨w.heap.size + 1, 0, none⟩ (.pointer (some ⟨r2, 0, none⟩))) (w.heap.size + 1) 174 #[.pointer (some ⟨r2, 0, none⟩)] := by
        have := HN5.out.b2.drew.set 0 (.pointer (some ⟨r2, 0, none⟩))
        simpa using this
       exact ((h0.setOther (by dsimp only; omega) _).setOther (by dsimp only; omega) _).setOther (by dsimp only; omega) _
      ·have h0 : Bx (v5.drew.setCell ⟨w.heap.size + 1, 0, none⟩ (.pointer (some ⟨r2, 0, none⟩))) (w.heap.size + 1 + 1) 94 #[.int .i64 0, .string ⟨#[]⟩] := HN5.out.b3.drew.setOther (by dsimp only; omega) _
       have h1 := bx2 h0 (.int .i64 y'.1) (.string y'.2)
       exact h1.setOther (by dsimp only; omega) _
      ·have h0 : Bx (((v5.drew.setCell ⟨w.heap.size + 1, 0, none⟩ (.pointer (some ⟨r2, 0, none⟩))).setCell ⟨w.heap.size + 1 + 1, 0, none⟩ (.int .i64 y'.1)).setCell ⟨w.heap.size + 1 + 1, 1, none⟩ (.string y'.2)) (w.heap.size + 1 + 1 + 1) 4 #[.bool false] := ((HN5.out.b4.drew.setOther (by dsimp only; omega) _).setOther (by dsimp only; omega) _).setOther (by dsimp only; omega) _
       have := h0.set 0 (.bool true)
       simpa using this
      ·exact (((HRM5.out.drew.setO (by omega) (by omega) (by omega) _).setO (by omega) (by omega) (by omega) _).setO (by omega) (by omega) (by omega) _).setO (by omega) (by omega) (by omega) _
      ·exact (((hl.drew.setCell (p := ⟨w.heap.size + 1, 0, none⟩) (by dsimp only; omega) _).setCell (p := ⟨w.heap.size + 1 + 1, 0, none⟩) (by dsimp only; omega) _).setCell (p := ⟨w.heap.size + 1 + 1, 1, none⟩) (by dsimp only; omega) _).setCell (p := ⟨w.heap.size + 1 + 1 + 1, 0, none⟩) (by dsimp only; omega) _
     have HKF : Hid (KeepsFrom w3.heap.size W ((((v5.drew.setCell ⟨w.heap.size + 1, 0, none⟩ (.pointer (some ⟨r2, 0, none⟩))).setCell ⟨w.heap.size + 1 + 1, 0, none⟩ (.int .i64 y'.1)).setCell ⟨w.heap.size + 1 + 1, 1, none⟩ (.string y'.2)).setCell ⟨w.heap.size + 1 + 1 + 1, 0, none⟩ (.bool true))) := (((((((keepsFrom_below HB5.out w3.heap.size).trans (KeepsFrom.of_drew _ _)).trans ((KeepsOthers.setCell _ _ _).from _)).trans ((KeepsOthers.setCell _ _ _).from _)).trans ((KeepsOthers.setCell _ _ _).from _)).trans ((KeepsOthers.setCell _ _ _).from _)))
     gi_wp2_with fail
     exact ⟨HKF.out, HFIN.out⟩
    ·have HNR : Hid (nrB x y' = false) := by show _ = _; unfold nrB; rw [decide_eq_false hlt2]; simp
     gi_wp2_with fail
     exact ⟨keepsFrom_below HB5.out _, HB5.out.mono zW, NnI.next HI.out HB5.out HNR.out⟩
  case done =>
   rintro D ys V hD rfl hi hK
   exfalso
   have hm : y ∈ mvsL x := List.mem_of_find?_eq_some HY.out
   have h2 : nrB x y = true := List.find?_some HY.out
   rw [hi.no y hm] at h2
   cases h2
  case stop =>
   rintro D c pre V hD hp ⟨rfl, y', s, pre', rfl, hno, hyes, q2, q3, q4, q5, q6⟩ hK
   have hyy : nearM x = some y' := near_first hp hno hyes
   have hye : y = y' := by rw [HY.out] at hyy; exact Option.some.inj hyy
   subst hye
   gi_wp2_with fail
   refine ⟨by simp, .inl ⟨_, _, rfl, run_takeDeferred hK, ?_⟩⟩
   have c2 := (bx_put q2 hK rfl (.deferred none)).cell 0
   have c3 := (bx_put q3 hK rfl (.deferred none)).cell 0
   have c3b := (bx_put q3 hK rfl (.deferred none)).cell 1
   have c4 := (bx_put q4 hK rfl (.deferred none)).cell 0
   obtain ⟨r2, g1, c1, g2, c2', rfl, hrw, z1, z2, z3⟩ := q5
   refine ⟨.tuple #[.pointer (some ⟨r2, 0, none⟩), .agg #[.int .i64 y.1, .string y.2], .bool true], ?_, ⟨_, rfl, r2, g1, c1, g2, c2', rfl, ⟨bx_put hrw.box hK rfl _, own_put hrw.bs hK rfl _, own_put hrw.ts hK rfl _, hrw.d1, hrw.d2, hrw.d3⟩, z1, z2, z3⟩, q6.trans (belowK_b (w := w) (Nat.le_refl _) V D _ _ (by have := HN3.out.bl.size; omega) hK rfl rfl)⟩
   clear q2 q3 q4 hrw z1 z2 z3
   simp [results, Tryz.results145, go_sem, c2, c3, c3b, c4]
end Go.Proofs.YtlkdmpfifpkpaaaGreatDoor
namespace Go.Proofs.YtlkdmpfifpkpaaaGreatDoor
open Go.RowKit
def finL : Nat → Ln → List (Int × ByteArray)
  | 0, _ => []
  | f + 1, x => if 0 < lefS x x.n then (match nearM x with | some y => y :: finL f (mvTo x y.1 y.2) | none => []) else []
def finX (x : Ln) : List (Int × ByteArray) := finL (lefS x x.n).toNat x
theorem finL_zero {x : Ln} (h : ¬ 0 < lefS x x.n) : ∀ f, finL f x = []
  | 0 => rfl
  | _ + 1 => if_neg h
theorem near_less {x : Ln} {y : Int × ByteArray} (h : nearM x = some y) : mvOk x y.1 y.2 = true ∧ lefS (mvTo x y.1 y.2) (mvTo x y.1 y.2).n < lefS x x.n := by
 have hb : nrB x y = true := List.find?_some h
 unfold nrB at hb
 rw [Bool.and_eq_true, decide_eq_true_eq] at hb
 exact hb
theorem finL_eq : ∀ (f g : Nat) (x : Ln), lefS x x.n ≤ f → lefS x x.n ≤ g → finL f x = finL g x
  | 0, g, x, hf, _ => by rw [finL_zero (by omega) g]; rfl
  | f + 1, 0, x, _, hg => by rw [finL_zero (by omega)]; rfl
  | f + 1, g + 1, x, hf, hg => by
   unfold finL
   by_cases h : 0 < lefS x x.n
   ·rw [if_pos h, if_pos h]
    cases e : nearM x with
    | none => rfl
    | some y =>
     have hl := (near_less e).2
     show _ :: _ = _ :: _
     rw [finL_eq f g (mvTo x y.1 y.2) (by omega) (by omega)]
   ·rw [if_neg h, if_neg h]
theorem finX_done {x : Ln} (h : ¬ 0 < lefS x x.n) : finX x = [] := finL_zero h _
theorem finX_step {x : Ln} {y : Int × ByteArray} (h : 0 < lefS x x.n) (e : nearM x = some y) : finX x = y :: finX (mvTo x y.1 y.2) := by
 have hl := (near_less e).2
 obtain ⟨f, hf⟩ : ∃ f, (lefS x x.n).toNat = f + 1 := ⟨(lefS x x.n).toNat - 1, by omega⟩
 have h1 : finX x = finL (f + 1) x := by unfold finX; rw [hf]
 rw [h1]
 unfold finL
 rw [if_pos h, e]
 show _ :: _ = _ :: _
 rw [finL_eq f (lefS (mvTo x y.1 y.2) (mvTo x y.1 y.2).n).toNat _ (by omega) (by omega)]
 rfl
theorem finL_len : ∀ f x, (finL f x).length ≤ f
  | 0, _ => by simp [finL]
  | f + 1, x => by
   unfold finL
   split
   ·split
    ·rename_i y _
     have := finL_len f (mvTo x y.1 y.2)
     simp only [List.length_cons]
     omega
    ·simp
   ·simp
theorem lefS_135 {x : Ln} (hv : vldL x = true) : (lefS x x.n).toNat ≤ 135 := by
 have h1 := (vldL_true hv).2.1
 have h2 := (vldL_true hv).2.2.1
 have h := (lefS_bd x x.n).2
 have h3 : x.n * (5 * x.m + 2) ≤ 5 * 27 := Nat.mul_le_mul h1 (by omega)
 have h4 : ((x.n * (5 * x.m + 2) : Nat) : Int) = (x.n : Int) * (5 * (x.m : Int) + 2) := by simp
 omega
def fnL (x : Ln) : List (Int × ByteArray) := if vldL x = true then finX x else []
def slLen : Value → Nat
  | .slice _ n _ => n
  | _ => 0
theorem nextNearer_any (r gb cb gt ct : Nat) (x : Ln) (y : Int × ByteArray) (hy : nearM x = some y) (hxn : x.n ≤ 1000) (hxm : x.m ≤ 1000) (w : World) (hr : RwC w r gb cb gt ct x) :
    Calls Tryz.prog 145 #[.pointer (some ⟨r, 0, none⟩)] w fun e W' => (∃ s, e = .returned (.tuple #[s, .agg #[.int .i64 y.1, .string y.2], .bool true]) ∧ RwN w.heap.size W' s (mvTo x y.1 y.2)) ∧ Below w.heap.size w W' :=
  callsIn_wide.1 (nextNearer_in 6 (Nat.le_refl _) r gb cb gt ct x y hy hxn hxm w hr)
theorem RwC.kept {w w' : World} {r gb cb gt ct R : Nat} {x : Ln} (h : RwC w r gb cb gt ct x) (hg : w.grownBy w' (some R)) (h1 : r ≠ R) (h2 : gb ≠ R) (h3 : gt ≠ R) : RwC w' r gb cb gt ct x :=
 ⟨h.box.kept hg h1, h.bs.kept hg (by simpa using h2), h.ts.kept hg (by simpa using h3), h.d1, h.d2, h.d3⟩
structure FnI (w wr : World) (r gb cb gt ct g cap : Nat) (x y : Ln) (pre : List (Int × ByteArray)) : Prop where
  rw : RwC wr r gb cb gt ct y
  ow : OwnMs wr g cap pre
  gz : w.heap.size ≤ g
  vl : vldL y = true
  fx : pre ++ finX y = finX x
  ln : pre.length + (lefS y y.n).toNat ≤ 135
  bl : Below w.heap.size w wr
theorem FnI.below {w wr w' : World} {r gb cb gt ct g cap : Nat} {x y : Ln} {pre : List (Int × ByteArray)} (h : FnI w wr r gb cb gt ct g cap x y pre) (hb : Below wr.heap.size wr w') : FnI w w' r gb cb gt ct g cap x y pre :=
 ⟨h.rw.below hb (Nat.le_refl _), Own.below h.ow hb (Own.lt h.ow), h.gz, h.vl, h.fx, h.ln, h.bl.trans (hb.mono h.bl.size)⟩
set_option linter.unusedSimpArgs false in
set_option maxRecDepth 100000 in
set_option maxHeartbeats 4000000 in
theorem lineFinish_any (bb bo cb tb tu ct : Nat) (x : Ln) (w : World) (hn : x.n ≤ 1000000000000) (hm : x.m ≤ 1000000000000) (hbk : BkC w bb bo x.n x.N x.I x.O) (hic : IC w tb tu x.m x.T) :
    Calls Tryz.prog 123 #[.agg #[.slice (some ⟨bb, bo, none⟩) x.n cb, .slice (some ⟨tb, tu, none⟩) x.m ct]] w fun e W' => (∃ v g, e = .returned (.tuple #[v, .bool (vldL x)]) ∧ RowMs w.heap.size W' v (fnL x) (some g)) ∧ Below w.heap.size w W' := by
  have HBB : Hid (∀ a, Below w.heap.size w (w.alloc a)) := fun a => below_all _ _
  have HRW : Hid (∀ w', Below w.heap.size w w' → Calls Tryz.prog 141 #[.agg #[.slice (some ⟨bb, bo, none⟩) x.n cb, .slice (some ⟨tb, tu, none⟩) x.m ct]] w' (RwO x w')) := fun w' hb => by
   refine railwayOf_any bb bo cb tb tu ct x w' hn hm ?_ (hic.keep hb)
   intro k hk
   obtain ⟨h0, h1, h2⟩ := hbk k hk
   have hlt : bb < w.heap.size := World.block_lt_of_cell? w ⟨bb, bo + k * 3, none⟩ h0
   exact ⟨by rw [hb.cell (p := ⟨bb, bo + k * 3, none⟩) hlt]; exact h0, by rw [hb.cell (p := ⟨bb, bo + k * 3 + 1, none⟩) hlt]; exact h1, by rw [hb.cell (p := ⟨bb, bo + k * 3 + 2, none⟩) hlt]; exact h2⟩
  clear hbk hic
  go_enter Tryz.func123, Tryz.ntmps123
  go_wp2_with fail
  refine (HRW.out _ (HBB.out _)).mono ?_
  rintro e w1 ⟨hb1, h1⟩
  have HB1 := Lib.hid ((HBB.out _).trans (hb1.mono (by simp)))
  have HOE : Hid (Own (w1.alloc (.cells #[] 94)) w1.heap.size 0 0 2 94 (mvF (mvM []) (mvS []))) := own_empty _ _ _ _
  have HB2 : Hid (∀ a, Below w.heap.size w (w1.alloc a)) := fun a => HB1.out.alloc HB1.out.size _
  rcases h1 with ⟨hv, s, rfl, r, gb, cb', gt, ct', rfl, hrw, k1, k2, k3⟩ | ⟨hv, rfl⟩
  ·have HI0 : Hid (FnI w (w1.alloc (.cells #[] 94)) r gb cb' gt ct' w1.heap.size 0 x x []) :=
    ⟨hrw.below (below_all _ _) (Nat.le_refl _), HOE.out, HB1.out.size, hv, rfl, by simpa using lefS_135 hv, HB2.out _⟩
   have HV := Lib.hid hv
   have HVX : Hid (fnL x = finX x) := if_pos hv
   clear hb1 hv hrw k1 k2 k3 HOE
   go_wp2_with fail
   generalize w1.alloc (.cells #[] 94) = W0 at *
   go_loopw [4, 6, 7, 8, 9] (fun s o _ _ _ wr => ∃ (r gb cb gt ct g cap : Nat) (y : Ln) (pre : List (Int × ByteArray)), s = .pointer (some ⟨r, 0, none⟩) ∧ o = .slice (some ⟨g, 0, none⟩) pre.length cap ∧ Hid (FnI w wr r gb cb gt ct g cap x y pre)) (fun _ o _ _ _ _ => 135 - slLen o)
   case atStart => exact ⟨r, gb, cb', gt, ct', w1.heap.size, 0, x, [], rfl, rfl, HI0⟩
   case round =>
    obtain ⟨r, gb, cb, gt, ct, g, cap, y, pre, rfl, rfl, HI⟩ := hrel
    have hnb := vldL_true HI.out.vl
    have hn5 : y.n ≤ 5 := hnb.2.1
    have hm5 : y.m ≤ 5 := hnb.2.2.1
    clear hnb
    have HLM := Lib.hid (leftMoves_any r gb cb gt ct y wr (by omega) (by omega) HI.out.rw)
    by_cases h0 : 0 < lefS y y.n
    ·obtain ⟨z, hz, hzb⟩ := nearM_some HI.out.vl h0
     have HZ := Lib.hid hz
     have HNN : Hid (∀ w', Below wr.heap.size wr w' → Calls Tryz.prog 145 #[.pointer (some ⟨r, 0, none⟩)] w' fun e W' => (∃ s, e = .returned (.tuple #[s, .agg #[.int .i64 z.1, .string z.2], .bool true]) ∧ RwN w'.heap.size W' s (mvTo y z.1 z.2)) ∧ Below w'.heap.size w' W') := fun w' hb => nextNearer_any r gb cb gt ct y z hz (by omega) (by omega) w' (HI.out.rw.below hb (Nat.le_refl _))
     have hlen : pre.length < 135 := by have := HI.out.ln; omega
     clear hz hzb
     go_wp2_with fail
     refine HLM.out.mono ?_
     rintro e w2 ⟨rfl, hb2⟩
     have HI2 := Lib.hid (HI.out.below hb2)
     have HC := Lib.hid (HNN.out w2 hb2)
     clear hb2
     go_wp2_with fail
     refine HC.out.mono ?_
     rintro e w3 ⟨⟨s, rfl, r2, gb2, cb2, gt2, ct2, rfl, hrw, k1, k2, k3⟩, hb3⟩
     have HI3 := Lib.hid (HI2.out.below hb3)
     have hg2 := Own.lt HI2.out.ow
     have HRN : Hid (RwC (w3.alloc (.cells #[.int .i64 z.1, .string z.2] 94)) r2 gb2 cb2 gt2 ct2 (mvTo y z.1 z.2)) := hrw.below (below_all _ _) (Nat.le_refl _)
     have HI4 : Hid (FnI w (w3.alloc (.cells #[.int .i64 z.1, .string z.2] 94)) r gb cb gt ct g cap x y pre) := HI3.out.below (below_all _ _)
     have n1 : r2 ≠ g := by omega
     have n2 : gb2 ≠ g := by omega
     have n3 : gt2 ≠ g := by omega
     clear hb3 hrw k1 k2 k3 hg2
     have HO4 : Hid (Own (w3.alloc (.cells #[.int .i64 z.1, .string z.2] 94)) g cap pre.length 2 94 (mvF (mvM (pre ++ [z])) (mvS (pre ++ [z])))) := OwnMs.ext HI4.out.ow _
     have HNW := Lib.hid (mvF_new pre z)
     go_wp2_with (at_builtin; refine wpList_push elMvL rfl (.tmp 31) (.tmp 33) rfl HO4.out rfl [.int .i64 z.1, .string z.2] (by show Value.slice _ 1 1 = _; simp) HNW.out (fun _ _ => mvF_one _ _ _) (by unfold maxLen; omega) (by omega) ?_; intro g' c' wa HA hgr hd)
     have hz2 := hgr.size
     have HI5 : Hid (FnI w wa r2 gb2 cb2 gt2 ct2 g' c' x (mvTo y z.1 z.2) (pre ++ [z])) := by
      have hb5 := HI4.out.bl
      have hgz := HI4.out.gz
      refine ⟨HRN.out.kept hgr n1 n2 n3, ?_, ?_, vld_mv HI4.out.vl (near_less HZ.out).1, ?_, ?_, hb5.trans (below_of_grown hgr hgz hb5.size)⟩
      ·show Own _ _ _ _ _ _ _
       rw [List.length_append]
       exact HA
      ·rcases hd with ⟨h, _⟩ | h
       ·omega
       ·have := hb5.size; omega
      ·rw [← HI4.out.fx, finX_step h0 HZ.out, List.append_assoc]
       rfl
      ·have h1 := (near_less HZ.out).2
       have h2 := HI4.out.ln
       rw [List.length_append]
       simp only [List.length_cons, List.length_nil]
       omega
     clear HA hgr hd hz2 n1 n2 n3
     go_wp2_with fail
     go_roundw
     case rel => exact ⟨r2, gb2, cb2, gt2, ct2, g', c', mvTo y z.1 z.2, pre ++ [z], rfl, by simp, HI5⟩
     case measure => simp [slLen]; omega
    ·have HFX : Hid (pre = fnL x) := by
      show _ = _
      rw [HVX.out, ← HI.out.fx, finX_done h0, List.append_nil]
     go_wp2_with fail
     refine HLM.out.mono ?_
     rintro e w2 ⟨rfl, hb2⟩
     have HI2 := Lib.hid (HI.out.below hb2)
     clear hb2
     go_wp2_with fail
     refine bodyPost_ret (v := .tuple #[.slice (some ⟨g, 0, none⟩) pre.length cap, .bool true]) (by simp [results, Tryz.results123, go_sem]) rfl ?_
     exact ⟨⟨_, g, by rw [HV.out], .inl ⟨g, cap, rfl, by rw [← HFX.out], HI2.out.gz, by rw [← HFX.out]; exact HI2.out.ow⟩⟩, HI2.out.bl⟩
  ·have HV := Lib.hid hv
   have HVX : Hid (fnL x = []) := by show _ = _; unfold fnL; rw [hv]; rfl
   clear hb1 hv
   go_wp2_with fail
   refine bodyPost_ret (v := .tuple #[.slice (some ⟨w1.heap.size, 0, none⟩) 0 0, .bool false]) (by simp [results, Tryz.results123, go_sem]) rfl ?_
   exact ⟨⟨_, w1.heap.size, by rw [HV.out], .inl ⟨w1.heap.size, 0, rfl, by rw [HVX.out]; rfl, HB1.out.size, by rw [HVX.out]; exact HOE.out⟩⟩, HB2.out _⟩
end Go.Proofs.YtlkdmpfifpkpaaaGreatDoor

