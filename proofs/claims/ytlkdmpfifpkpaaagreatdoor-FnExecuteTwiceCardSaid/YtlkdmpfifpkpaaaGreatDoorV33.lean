/-
  Parts of the proof: Zn Zo. No condition.
-/
import Derived.Test.YtlkdmpfifpkpaaaGreatDoorV32
namespace Go.Proofs.YtlkdmpfifpkpaaaGreatDoor
open Go.RowKit
def doX (st : Ses) (ys : List (Int × ByteArray)) : Option Ses := if st.ms.length + ys.length ≤ 100 then (match rnO st.x (mvM ys) (mvS ys) ys.length with | some y => some (rcAll { st with x := y } ys) | none => none) else none
theorem doX_many {st : Ses} {ys : List (Int × ByteArray)} (h : ¬ st.ms.length + ys.length ≤ 100) : doX st ys = none := if_neg h
theorem doX_none {st : Ses} {ys : List (Int × ByteArray)} (h : rnO st.x (mvM ys) (mvS ys) ys.length = none) : doX st ys = none := by
 unfold doX
 rw [h]
 split <;> rfl
theorem doX_some {st : Ses} {ys : List (Int × ByteArray)} {y : Ln} (h : st.ms.length + ys.length ≤ 100) (h2 : rnO st.x (mvM ys) (mvS ys) ys.length = some y) : doX st ys = some (rcAll { st with x := y } ys) := by
 unfold doX
 rw [if_pos h, h2]
theorem bx_st6 {w : World} {b : Nat} {t : TypeId} {a0 a1 a2 a3 a4 a5 : Value} (h : Bx w b t #[a0, a1, a2, a3, a4, a5]) (v0 v1 v2 v3 v4 v5 : Value) :
    Bx ((((((w.setCell ⟨b, 0, none⟩ v0).setCell ⟨b, 1, none⟩ v1).setCell ⟨b, 2, none⟩ v2).setCell ⟨b, 3, none⟩ v3).setCell ⟨b, 4, none⟩ v4).setCell ⟨b, 5, none⟩ v5) b t #[v0, v1, v2, v3, v4, v5] := by
  simpa using (((((h.set 0 v0).set 1 v1).set 2 v2).set 3 v3).set 4 v4).set 5 v5
theorem fr_st6 (w : World) (b : Nat) (v0 v1 v2 v3 v4 v5 : Value) :
    Fr (fun q => q = b) w ((((((w.setCell ⟨b, 0, none⟩ v0).setCell ⟨b, 1, none⟩ v1).setCell ⟨b, 2, none⟩ v2).setCell ⟨b, 3, none⟩ v3).setCell ⟨b, 4, none⟩ v4).setCell ⟨b, 5, none⟩ v5) :=
  (((((Fr.set w ⟨b, 0, none⟩ v0).trans (Fr.set _ ⟨b, 1, none⟩ v1)).trans (Fr.set _ ⟨b, 2, none⟩ v2)).trans (Fr.set _ ⟨b, 3, none⟩ v3)).trans (Fr.set _ ⟨b, 4, none⟩ v4)).trans (Fr.set _ ⟨b, 5, none⟩ v5)
theorem mvs_cells {w : World} {b n : Nat} {M : Nat → Int} {L : Nat → ByteArray} (h : MvsC w b 0 n M L) : ∀ j, j < n * 2 → w.cell? ((⟨b, 0, none⟩ : Addr).add j) = some (mvF M L j) := fun j hj => by
 obtain ⟨h1, h2⟩ := h (j / 2) (by omega)
 rw [addr_add, Nat.zero_add]
 rw [Nat.zero_add] at h1 h2
 unfold mvF
 by_cases e : j % 2 = 0
 ·rw [if_pos e, show j = j / 2 * 2 by omega, h1]
  congr 3
  omega
 ·rw [if_neg e]
  have : j = j / 2 * 2 + 1 := by omega
  conv => lhs; rw [this]
  exact h2
theorem mvs_left {w : World} {b : Nat} {xs ys : List (Int × ByteArray)} (h : MvsC w b 0 xs.length (mvM xs) (mvS xs)) : ∀ j, j < xs.length * 2 → w.cell? ((⟨b, 0, none⟩ : Addr).add j) = some (mvF (mvM (xs ++ ys)) (mvS (xs ++ ys)) (0 * 2 + j)) := fun j hj => by
 rw [mvs_cells h j hj, show 0 * 2 + j = j by omega]
 congr 1
 exact mvF_congr (n := xs.length) (fun k hk => by unfold mvM; rw [List.getElem?_append_left hk]) (fun k hk => by unfold mvS; rw [List.getElem?_append_left hk]) j hj
theorem mvs_right {w : World} {b : Nat} {xs ys : List (Int × ByteArray)} (h : MvsC w b 0 ys.length (mvM ys) (mvS ys)) : ∀ j, j < ys.length * 2 → w.cell? ((⟨b, 0, none⟩ : Addr).add j) = some (mvF (mvM (xs ++ ys)) (mvS (xs ++ ys)) (xs.length * 2 + j)) := fun j hj => by
 rw [mvs_cells h j hj]
 congr 1
 unfold mvF
 have e1 : (xs.length * 2 + j) % 2 = j % 2 := by omega
 have e2 : (xs.length * 2 + j) / 2 = xs.length + j / 2 := by omega
 have e3 : mvM (xs ++ ys) (xs.length + j / 2) = mvM ys (j / 2) := by unfold mvM; rw [List.getElem?_append_right (by omega)]; simp
 have e4 : mvS (xs ++ ys) (xs.length + j / 2) = mvS ys (j / 2) := by unfold mvS; rw [List.getElem?_append_right (by omega)]; simp
 rw [e1, e2, e3, e4]
theorem iF_left {xs ys : List Int} {i : Nat} (h : i < xs.length) : iF (xs ++ ys) i = iF xs i := by unfold iF; rw [List.getElem?_append_left h]
theorem iF_rep {xs : List Int} {q i : Nat} {t : Int} (h : i < q) : iF (xs ++ List.replicate q t) (xs.length + i) = t := by
 unfold iF
 rw [List.getElem?_append_right (by omega)]
 simp [h]
theorem ic_left {w : World} {b : Nat} {xs ys : List Int} (h : IC w b 0 xs.length (iF xs)) : ∀ j, j < xs.length * 1 → w.cell? ((⟨b, 0, none⟩ : Addr).add j) = some ((fun i => Value.int .i64 (iF (xs ++ ys) i)) (0 * 1 + j)) := fun j hj => by
 rw [ic_new h j hj]
 show some (Value.int .i64 (iF xs (0 * 1 + j))) = some (Value.int .i64 (iF (xs ++ ys) (0 * 1 + j)))
 rw [iF_left (by omega)]
structure DoI (w1 wr : World) (u v now pv : Value) (gB cB g cap nm j : Nat) (M : Nat → Int) (L : Nat → ByteArray) (f : Nat → Int) : Prop where
  bl : Below w1.heap.size w1 wr
  bx : Bx wr (w1.heap.size + 1) 68 #[u, v, .slice (some ⟨gB, 0, none⟩) nm cB, .slice (some ⟨g, 0, none⟩) j cap, now, pv]
  mv : Own wr gB cB nm 2 94 (mvF M L)
  tv : Own wr g cap j 1 3 (fun i => .int .i64 (f i))
  z1 : w1.heap.size + 1 < gB
  z2 : w1.heap.size + 1 < g
  ne : gB ≠ g
theorem DoI.push {w1 wr wa : World} {u v now pv : Value} {gB cB g cap g' c' nm j : Nat} {M : Nat → Int} {L : Nat → ByteArray} {f : Nat → Int} (h : DoI w1 wr u v now pv gB cB g cap nm j M L f) (HA : Own wa g' c' (j + 1) 1 3 (fun i => .int .i64 (f i))) (hgr : wr.grownBy wa (some g)) (hd : (g' = g ∧ c' = cap) ∨ wr.heap.size < g') :
    DoI w1 (wa.setCell ⟨w1.heap.size + 1, 3, none⟩ (.slice (some ⟨g', 0, none⟩) (j + 1) c')) u v now pv gB cB g' c' nm (j + 1) M L f := by
  have h1 := h.z1
  have h2 := h.z2
  have h3 := h.bl.size
  have h4 := h.mv.lt
  have h5 := h.tv.lt
  have hg' : w1.heap.size + 1 < g' ∧ gB ≠ g' := by
   have := h.ne
   rcases hd with ⟨rfl, _⟩ | hd <;> omega
  have hs := Fr.set wa ⟨w1.heap.size + 1, 3, none⟩ (.slice (some ⟨g', 0, none⟩) (j + 1) c')
  have hbx := (h.bx.kept hgr (by omega)).set 3 (.slice (some ⟨g', 0, none⟩) (j + 1) c')
  have hgs := hgr.size
  refine ⟨(h.bl.trans (below_of_grown hgr (by omega) h3)).trans (hs.below (fun k hk => by have : k = w1.heap.size + 1 := hk; omega) (by omega)), ?_, ((h.mv.kept hgr (by have := h.ne; simpa using this)).fr hs (fun e => by have : gB = w1.heap.size + 1 := e; omega)), HA.fr hs (fun e => by have : g' = w1.heap.size + 1 := e; omega), h1, hg'.1, hg'.2⟩
  simpa using hbx
def DoR (o : Option Ses) (ao : Option Addr) (ps : List Pt) (c0 : Nat) (bad : Value) (w : World) (e : Ending) (w' : World) : Prop :=
 Below w.heap.size w w' ∧ match o with
  | none => e = .returned (.tuple #[bad, .bool false])
  | some st => ∃ g1 c1 g2 c2 gm cm gt ct, e = .returned (.tuple #[.agg #[.slice (some ⟨g1, 0, none⟩) st.x.n c1, .slice (some ⟨g2, 0, none⟩) st.x.m c2, .slice (some ⟨gm, 0, none⟩) st.ms.length cm, .slice (some ⟨gt, 0, none⟩) st.ts.length ct, .int .i64 st.tm, .slice ao ps.length c0], .bool true]) ∧ SpM w' g1 g2 gm gt ao st ps ∧ w.heap.size ≤ g1 ∧ w.heap.size ≤ g2 ∧ w.heap.size ≤ gm ∧ w.heap.size ≤ gt
set_option linter.unusedSimpArgs false in
set_option maxRecDepth 100000 in
set_option maxHeartbeats 4000000 in
theorem l9Do_any (g1 c1 g2 c2 gm cm gt ct c0 bm cq : Nat) (ao : Option Addr) (st : Ses) (ps : List Pt) (ys : List (Int × ByteArray)) (w : World) (hM : SpM w g1 g2 gm gt ao st ps) (hk : SesOk st) (hy : ys.length ≤ 1000000) (hmv : MvsC w bm 0 ys.length (mvM ys) (mvS ys)) :
    Calls Tryz.prog 60 #[.agg #[.slice (some ⟨g1, 0, none⟩) st.x.n c1, .slice (some ⟨g2, 0, none⟩) st.x.m c2, .slice (some ⟨gm, 0, none⟩) st.ms.length cm, .slice (some ⟨gt, 0, none⟩) st.ts.length ct, .int .i64 st.tm, .slice ao ps.length c0], .slice (some ⟨bm, 0, none⟩) ys.length cq] w (DoR (doX st ys) ao ps c0 (.agg #[.slice (some ⟨g1, 0, none⟩) st.x.n c1, .slice (some ⟨g2, 0, none⟩) st.x.m c2, .slice (some ⟨gm, 0, none⟩) st.ms.length cm, .slice (some ⟨gt, 0, none⟩) st.ts.length ct, .int .i64 st.tm, .slice ao ps.length c0]) w) := by
  have HB0 : Hid (Below w.heap.size w ((w.alloc (.cells #[.slice (some ⟨g1, 0, none⟩) st.x.n c1, .slice (some ⟨g2, 0, none⟩) st.x.m c2, .slice (some ⟨gm, 0, none⟩) st.ms.length cm, .slice (some ⟨gt, 0, none⟩) st.ts.length ct, .int .i64 st.tm, .slice ao ps.length c0] 68)).alloc (.cells #[.slice none 0 0, .slice none 0 0, .slice none 0 0, .slice none 0 0, .int .i64 0, .slice none 0 0] 68))) := (below_all _ _).alloc (by simp) _
  have HX2 : Hid (Bx ((w.alloc (.cells #[.slice (some ⟨g1, 0, none⟩) st.x.n c1, .slice (some ⟨g2, 0, none⟩) st.x.m c2, .slice (some ⟨gm, 0, none⟩) st.ms.length cm, .slice (some ⟨gt, 0, none⟩) st.ts.length ct, .int .i64 st.tm, .slice ao ps.length c0] 68)).alloc (.cells #[.slice none 0 0, .slice none 0 0, .slice none 0 0, .slice none 0 0, .int .i64 0, .slice none 0 0] 68)) w.heap.size 68 #[.slice (some ⟨g1, 0, none⟩) st.x.n c1, .slice (some ⟨g2, 0, none⟩) st.x.m c2, .slice (some ⟨gm, 0, none⟩) st.ms.length cm, .slice (some ⟨gt, 0, none⟩) st.ts.length ct, .int .i64 st.tm, .slice ao ps.length c0]) := (Bx.new _ _ _).alloc _
  have HX4 : Hid (Bx ((w.alloc (.cells #[.slice (some ⟨g1, 0, none⟩) st.x.n c1, .slice (some ⟨g2, 0, none⟩) st.x.m c2, .slice (some ⟨gm, 0, none⟩) st.ms.length cm, .slice (some ⟨gt, 0, none⟩) st.ts.length ct, .int .i64 st.tm, .slice ao ps.length c0] 68)).alloc (.cells #[.slice none 0 0, .slice none 0 0, .slice none 0 0, .slice none 0 0, .int .i64 0, .slice none 0 0] 68)) (w.heap.size + 1) 68 #[.slice none 0 0, .slice none 0 0, .slice none 0 0, .slice none 0 0, .int .i64 0, .slice none 0 0]) := Bx.newAt (by simp)
  have HZ0 : Hid (((w.alloc (.cells #[.slice (some ⟨g1, 0, none⟩) st.x.n c1, .slice (some ⟨g2, 0, none⟩) st.x.m c2, .slice (some ⟨gm, 0, none⟩) st.ms.length cm, .slice (some ⟨gt, 0, none⟩) st.ts.length ct, .int .i64 st.tm, .slice ao ps.length c0] 68)).alloc (.cells #[.slice none 0 0, .slice none 0 0, .slice none 0 0, .slice none 0 0, .int .i64 0, .slice none 0 0] 68)).heap.size = w.heap.size + 2) := by show _ = _; simp
  have HM := Lib.hid hM
  have HMV : Hid (∀ W, Below w.heap.size w W → MvsC W bm 0 ys.length (mvM ys) (mvS ys)) := fun W h => hmv.keep h
  have hxn := hk.xn
  have hml := hk.ml
  have htl : st.ts.length ≤ 100 := by have := hk.tl; omega
  have HLR : Hid (∀ W, Below w.heap.size w W → Calls Tryz.prog 79 #[.agg #[.slice (some ⟨g1, 0, none⟩) st.x.n c1, .slice (some ⟨g2, 0, none⟩) st.x.m c2], .slice (some ⟨bm, 0, none⟩) ys.length cq] W (LrR (rnO st.x (mvM ys) (mvS ys) ys.length) W)) := fun W h => specLineRun_any g1 0 c1 g2 0 c2 bm 0 ys.length cq st.x (mvM ys) (mvS ys) W (by omega) (by omega) (by omega) ((hM.keep h).bk) ((hM.keep h).tr) (hmv.keep h)
  clear hM hk hmv
  go_enter Tryz.func60, Tryz.ntmps60
  go_wp2_with fail
  generalize (w.alloc (.cells #[.slice (some ⟨g1, 0, none⟩) st.x.n c1, .slice (some ⟨g2, 0, none⟩) st.x.m c2, .slice (some ⟨gm, 0, none⟩) st.ms.length cm, .slice (some ⟨gt, 0, none⟩) st.ts.length ct, .int .i64 st.tm, .slice ao ps.length c0] 68)).alloc (.cells #[.slice none 0 0, .slice none 0 0, .slice none 0 0, .slice none 0 0, .int .i64 0, .slice none 0 0] 68) = w0 at *
  refine (HLR.out _ HB0.out).mono ?_
  rintro e w1 ⟨hb1, h1⟩
  have hz0 := HZ0.out
  have HB1 := Lib.hid (HB0.out.trans (hb1.mono HB0.out.size))
  have HXA := Lib.hid (HX2.out.below hb1 HX2.out.lt)
  have HXB := Lib.hid (HX4.out.below hb1 HX4.out.lt)
  have hsa := HXA.out.cell
  have hsa6 := fun C => (HXA.out.alloc C).cell
  have hsb6 := fun C => (HXB.out.alloc C).cell
  have hfb6 := fun C => (HXB.out.alloc C).free
  have hz1 := hb1.size
  rcases h1 with ⟨ho, rfl⟩ | ⟨y, v, ho, rfl, hl⟩
  ·have HN : Hid (doX st ys = none) := doX_none ho
   clear ho hb1
   unfold nilLn
   go_wp2_with fail
   have HXE := bx_st6 (HXB.out.alloc (.cells #[(.slice none 0 0), (.slice none 0 0)] 31)) (.slice (some ⟨g1, 0, none⟩) st.x.n c1) (.slice (some ⟨g2, 0, none⟩) st.x.m c2) (.slice (some ⟨gm, 0, none⟩) st.ms.length cm) (.slice (some ⟨gt, 0, none⟩) st.ts.length ct) (.int .i64 st.tm) (.slice ao ps.length c0)
   have HFE := fr_st6 (w1.alloc (.cells #[(.slice none 0 0), (.slice none 0 0)] 31)) (w.heap.size + 1) (.slice (some ⟨g1, 0, none⟩) st.x.n c1) (.slice (some ⟨g2, 0, none⟩) st.x.m c2) (.slice (some ⟨gm, 0, none⟩) st.ms.length cm) (.slice (some ⟨gt, 0, none⟩) st.ts.length ct) (.int .i64 st.tm) (.slice ao ps.length c0)
   have hec := HXE.cell
   have HBE : Below w.heap.size w _ := (HB1.out.alloc HB1.out.size (.cells #[(.slice none 0 0), (.slice none 0 0)] 31)).trans (HFE.below (B := w.heap.size) (fun k hk => by omega) (by simp; omega))
   exact bodyPost_ret (v := .tuple #[.agg #[.slice (some ⟨g1, 0, none⟩) st.x.n c1, .slice (some ⟨g2, 0, none⟩) st.x.m c2, .slice (some ⟨gm, 0, none⟩) st.ms.length cm, .slice (some ⟨gt, 0, none⟩) st.ts.length ct, .int .i64 st.tm, .slice ao ps.length c0], .bool false]) (by simp [results, Tryz.results60, go_sem, hec]) rfl ⟨HBE, by rw [HN.out]⟩
  have HL := Lib.hid hl
  obtain ⟨h1, d1, h2, d2, rfl, o1, o2, _, b1, b2⟩ := hl
  have HO1 := Lib.hid o1
  have HO2 := Lib.hid o2
  have HBZ : Hid (w.heap.size + 2 ≤ h1 ∧ w.heap.size + 2 ≤ h2) := by show _ ∧ _; omega
  clear o1 o2 b1 b2
  by_cases h100 : st.ms.length + ys.length ≤ 100
  ·have HN : Hid (doX st ys = some (rcAll { st with x := y } ys)) := doX_some h100 ho
   have hov : decide ((100 : Int) < (st.ms.length : Int) + (ys.length : Int)) = false := decide_eq_false (by omega)
   have hwr : IntKind.i64.wrap ((st.ms.length : Int) + (ys.length : Int)) = (st.ms.length : Int) + (ys.length : Int) := IntWalk.i64_in _ (by omega)
   clear ho
   have hsa8 := fun C D => ((HXA.out.alloc C).alloc D).cell
   have hf8 : ∀ (C : Obj) (cs : Array Value) (o : Nat), ((w1.alloc C).alloc (.cells cs 68)).frozen? ⟨w1.heap.size + 1, o, none⟩ = false := fun C cs o => (Bx.newAt (by simp)).free o
   have hc8 : ∀ (C : Obj) (cs : Array Value) (o : Nat), ((w1.alloc C).alloc (.cells cs 68)).cell? ⟨w1.heap.size + 1, o, none⟩ = cs[o]? := fun C cs o => (Bx.newAt (by simp)).cell o
   have hc6 : ∀ (cs : Array Value) (D : Obj) (o : Nat), ((w1.alloc (.cells cs 31)).alloc D).cell? ⟨w1.heap.size, o, none⟩ = cs[o]? := fun cs D o => ((Bx.new _ _ _).alloc _).cell o
   have hsa9 := fun C D E => (((HXA.out.alloc C).alloc D).alloc E).cell
   have HB9 : Hid (∀ (C D E : Obj), Below w1.heap.size w1 (((w1.alloc C).alloc D).alloc E)) := fun C D E => ((below_all w1 C).alloc (by simp) D).alloc (by simp; omega) E
   have HX9 : Hid (∀ (C E : Obj) (cs : Array Value), Bx (((w1.alloc C).alloc (.cells cs 68)).alloc E) (w1.heap.size + 1) 68 cs) := fun C E cs => (Bx.newAt (by simp)).alloc E
   have hb0w : w.heap.size ≤ w1.heap.size := by omega
   go_wp2_with (first
     | (at_builtin; refine wpList_app elMvL rfl (.tmp 32) (.tmp 34) (by rfl) (g := w1.heap.size + 1 + 1) (f := mvF (mvM (st.ms ++ ys)) (mvS (st.ms ++ ys))) (own_emptyAt (by simp)) (by rfl) ⟨gm, 0, none⟩ st.ms.length cm (by rfl) (mvs_left (HM.out.keep (HB1.out.trans ((HB9.out _ _ _).mono hb0w))).mv) (fun _ _ => mvF_one _ _ _) (by unfold maxLen; omega) (by omega) ?_; intro gA cA wA hA hgrA hdA; rw [Nat.zero_add] at hA
        have HBA := Lib.hid ((HB9.out _ _ _).trans (below_of_grown (B := w1.heap.size) hgrA (by omega) (by simp; omega)))
        have HXA8 := Lib.hid ((HX9.out _ _ _).kept hgrA (by omega))
        have hgA : w1.heap.size + 1 < gA := by rcases hdA with ⟨rfl, _⟩ | hdA; omega; simp at hdA; omega
        have HOA := Lib.hid hA
        clear hA hgrA hdA
        try simp only [Nat.zero_add])
     | (at_builtin; refine wpList_app elMvL rfl (.tmp 35) (.tmp 36) (by rfl) (f := mvF (mvM (st.ms ++ ys)) (mvS (st.ms ++ ys))) HOA.out (by rfl) ⟨bm, 0, none⟩ ys.length cq (by rfl) (mvs_right (HMV.out _ (HB1.out.trans (HBA.out.mono hb0w)))) (fun _ _ => mvF_one _ _ _) (by unfold maxLen; omega) (by omega) ?_; intro gB cB wB hB hgrB hdB
        have HBB := Lib.hid (HBA.out.trans (below_of_grown (B := w1.heap.size) hgrB (by omega) HBA.out.size))
        have HXB8 := Lib.hid (HXA8.out.kept hgrB (by omega))
        have hzA := HBA.out.size
        have hzA8 := HXA8.out.lt
        have hgB : w1.heap.size + 1 < gB := by rcases hdB with ⟨rfl, _⟩ | hdB; exact hgA; omega
        have HOB := Lib.hid hB
        clear hB hgrB hdB
        have hfB := HXB8.out.free
        have hcB := HXB8.out.cell
        have hzB := HBB.out.size
        have hlB := HOB.out.lt
        have hBs : ∀ (u : Value) (E : Obj), Below w1.heap.size wB ((wB.setCell ⟨w1.heap.size + 1, 2, none⟩ u).alloc E) := fun u E => ((Below.refl w1.heap.size wB).setCell (by show w1.heap.size ≤ w1.heap.size + 1; omega) u).alloc (by simp; omega) E
        have hsaB : ∀ (u : Value) (E : Obj) (o : Nat), ((wB.setCell ⟨w1.heap.size + 1, 2, none⟩ u).alloc E).cell? ⟨w.heap.size, o, none⟩ = (#[.slice (some ⟨g1, 0, none⟩) st.x.n c1, .slice (some ⟨g2, 0, none⟩) st.x.m c2, .slice (some ⟨gm, 0, none⟩) st.ms.length cm, .slice (some ⟨gt, 0, none⟩) st.ts.length ct, .int .i64 st.tm, .slice ao ps.length c0] : Array Value)[o]? := fun u E o => (((HXA.out.below HBB.out (by omega)).setOther (by show w.heap.size ≠ w1.heap.size + 1; omega) u).alloc E).cell o)
     | (at_builtin; refine wpList_app elInt rfl (.tmp 39) (.tmp 41) (by rfl) (g := wB.heap.size) (f := fun i => .int .i64 (iF (st.ts ++ List.replicate ys.length st.tm) i)) (own_emptyAt (by simp)) (by rfl) ⟨gt, 0, none⟩ st.ts.length ct (by rfl) (ic_left (HM.out.keep (HB1.out.trans ((HBB.out.trans (hBs _ _)).mono hb0w))).tv) (fun _ _ => rfl) (by unfold maxLen; omega) (by omega) ?_; intro gC cC wC hC hgrC hdC; rw [Nat.zero_add] at hC
        have HBC := Lib.hid ((HBB.out.trans (hBs _ _)).trans (below_of_grown (B := w1.heap.size) hgrC (by omega) (by simp; omega)))
        have HXC8 := Lib.hid ((((HXB8.out.set 2 (.slice (some ⟨gB, 0, none⟩) (st.ms.length + ys.length) cB)).alloc (.cells #[] 3))).kept hgrC (by omega))
        have HOB2 := Lib.hid (((HOB.out.setOther (by show gB ≠ w1.heap.size + 1; omega) (.slice (some ⟨gB, 0, none⟩) (st.ms.length + ys.length) cB)).alloc (.cells #[] 3)).kept hgrC (by simp; omega))
        have hgC : w1.heap.size + 1 < gC ∧ gB ≠ gC := by rcases hdC with ⟨rfl, _⟩ | hdC; omega; simp at hdC; omega
        have HOC := Lib.hid hC
        clear hC hgrC hdC
        have hfC := HXC8.out.free
        have hcC := HXC8.out.cell
        try simp only [Nat.zero_add])
     | fail)
   have HD0 : Hid (DoI w1 (wC.setCell ⟨w1.heap.size + 1, 3, none⟩ (.slice (some ⟨gC, 0, none⟩) st.ts.length cC)) (.slice (some ⟨h1, 0, none⟩) y.n d1) (.slice (some ⟨h2, 0, none⟩) y.m d2) (.int .i64 st.tm) (.slice ao ps.length c0) gB cB gC cC (st.ms.length + ys.length) st.ts.length (mvM (st.ms ++ ys)) (mvS (st.ms ++ ys)) (iF (st.ts ++ List.replicate ys.length st.tm))) := by
    have hs := Fr.set wC ⟨w1.heap.size + 1, 3, none⟩ (.slice (some ⟨gC, 0, none⟩) st.ts.length cC)
    have hbx := HXC8.out.set 3 (.slice (some ⟨gC, 0, none⟩) st.ts.length cC)
    have hzC := HBC.out.size
    refine ⟨HBC.out.trans (hs.below (fun k hk => by have : k = w1.heap.size + 1 := hk; omega) hzC), ?_, HOB2.out.fr hs (fun e => by have : gB = w1.heap.size + 1 := e; omega), HOC.out.fr hs (fun e => by have : gC = w1.heap.size + 1 := e; omega), hgB, hgC.1, hgC.2⟩
    simpa using hbx
   clear hfC hcC hsaB hBs hcB hfB hsa9 hc6 hc8 hf8 hsa8 hfb6 hsb6 hsa6 hsa HOB2 HXC8 HBC HXB8 HBB HOB HXA8 HBA HOA HOC HB9 HX9 hb1 hov hwr h100
   go_loopw [9] (fun i wr => ∃ j g cap : Nat, j ≤ ys.length ∧ i = .int .i64 j ∧ Hid (DoI w1 wr (.slice (some ⟨h1, 0, none⟩) y.n d1) (.slice (some ⟨h2, 0, none⟩) y.m d2) (.int .i64 st.tm) (.slice ao ps.length c0) gB cB g cap (st.ms.length + ys.length) (st.ts.length + j) (mvM (st.ms ++ ys)) (mvS (st.ms ++ ys)) (iF (st.ts ++ List.replicate ys.length st.tm)))) (fun i _ => ys.length - (intOf i).toNat)
   case atStart => exact ⟨0, gC, cC, Nat.zero_le _, rfl, HD0⟩
   case round =>
    obtain ⟨j, g, cap, hj, rfl, HI⟩ := hrel
    have HXR := Lib.hid (HXA.out.below HI.out.bl (by omega))
    have hsr := HXR.out.cell
    have hcr := HI.out.bx.cell
    by_cases hlt : j < ys.length
    ·have hji : (j : Int) < (ys.length : Int) := by omega
     have HQ : Hid (iF (st.ts ++ List.replicate ys.length st.tm) (st.ts.length + j) = st.tm) := iF_rep hlt
     have hz2 := HI.out.z2
     go_wp2_with (at_builtin; refine wpList_pushI elInt rfl (.tmp 51) (.tmp 54) (by rfl) (f := iF (st.ts ++ List.replicate ys.length st.tm)) HI.out.tv (by rfl) (by rfl) HQ.out.symm (by omega) ?_; intro g' c' wa HA hgr hd; have HXa := Lib.hid (HI.out.bx.kept hgr (by omega)); have hfa := HXa.out.free; have hca := HXa.out.cell; have HI2 := Lib.hid (HI.out.push HA hgr hd); clear HA hgr hd)
     go_roundw
     case rel => exact ⟨j + 1, g', c', by omega, by go_num, HI2⟩
     case measure => simp [intOf]; omega
    ·obtain rfl : j = ys.length := by omega
     have HXS := Lib.hid (HXB.out.below HI.out.bl (by omega))
     have hcs := HXS.out.cell
     have hfs := HXS.out.free
     go_wp2_with fail
     have HXE := bx_st6 HXS.out (.slice (some ⟨h1, 0, none⟩) y.n d1) (.slice (some ⟨h2, 0, none⟩) y.m d2) (.slice (some ⟨gB, 0, none⟩) (st.ms.length + ys.length) cB) (.slice (some ⟨g, 0, none⟩) (st.ts.length + ys.length) cap) (.int .i64 st.tm) (.slice ao ps.length c0)
     have HFE := fr_st6 wr (w.heap.size + 1) (.slice (some ⟨h1, 0, none⟩) y.n d1) (.slice (some ⟨h2, 0, none⟩) y.m d2) (.slice (some ⟨gB, 0, none⟩) (st.ms.length + ys.length) cB) (.slice (some ⟨g, 0, none⟩) (st.ts.length + ys.length) cap) (.int .i64 st.tm) (.slice ao ps.length c0)
     have hec := HXE.cell
     have hzr := HI.out.bl.size
     have HBE := (HB1.out.trans (HI.out.bl.mono hb0w)).trans (HFE.below (B := w.heap.size) (fun k hk => by omega) (by omega))
     have hb2 := HBZ.out
     have hzz1 := HI.out.z1
     have hzz2 := HI.out.z2
     have p1 := (HO1.out.below HI.out.bl HO1.out.lt).fr HFE (by omega)
     have p2 := (HO2.out.below HI.out.bl HO2.out.lt).fr HFE (by omega)
     have p3 := HI.out.mv.fr HFE (by omega)
     have p4 := HI.out.tv.fr HFE (by omega)
     refine bodyPost_ret (v := .tuple #[.agg #[.slice (some ⟨h1, 0, none⟩) y.n d1, .slice (some ⟨h2, 0, none⟩) y.m d2, .slice (some ⟨gB, 0, none⟩) (st.ms.length + ys.length) cB, .slice (some ⟨g, 0, none⟩) (st.ts.length + ys.length) cap, .int .i64 st.tm, .slice ao ps.length c0], .bool true]) (by simp [results, Tryz.results60, go_sem, hec]) rfl ⟨HBE, ?_⟩
     rw [HN.out]
     have e1 : (rcAll { st with x := y } ys).ms.length = st.ms.length + ys.length := by simp [rcAll]
     have e2 : (rcAll { st with x := y } ys).ts.length = st.ts.length + ys.length := by simp [rcAll]
     refine ⟨h1, d1, h2, d2, gB, cB, g, cap, by rw [e1, e2]; rfl, ⟨BkC.of_own p1, IC.of_own p2, ?_, ?_, (HM.out.keep HBE).pv, p1.lt, p2.lt, p3.lt, p4.lt⟩, by omega, by omega, by omega, by omega⟩
     ·rw [e1]; exact MvsC.of_own p3
     ·rw [e2]; exact IC.of_own p4
  ·have HN : Hid (doX st ys = none) := doX_many h100
   have hov : (100 : Int) < (st.ms.length : Int) + (ys.length : Int) := by omega
   have hwr : IntKind.i64.wrap ((st.ms.length : Int) + (ys.length : Int)) = (st.ms.length : Int) + (ys.length : Int) := IntWalk.i64_in _ (by omega)
   clear ho hb1 h100
   go_wp2_with fail
   have HXE := bx_st6 (HXB.out.alloc (.cells #[(.slice (some ⟨h1, 0, none⟩) y.n d1), (.slice (some ⟨h2, 0, none⟩) y.m d2)] 31)) (.slice (some ⟨g1, 0, none⟩) st.x.n c1) (.slice (some ⟨g2, 0, none⟩) st.x.m c2) (.slice (some ⟨gm, 0, none⟩) st.ms.length cm) (.slice (some ⟨gt, 0, none⟩) st.ts.length ct) (.int .i64 st.tm) (.slice ao ps.length c0)
   have HFE := fr_st6 (w1.alloc (.cells #[(.slice (some ⟨h1, 0, none⟩) y.n d1), (.slice (some ⟨h2, 0, none⟩) y.m d2)] 31)) (w.heap.size + 1) (.slice (some ⟨g1, 0, none⟩) st.x.n c1) (.slice (some ⟨g2, 0, none⟩) st.x.m c2) (.slice (some ⟨gm, 0, none⟩) st.ms.length cm) (.slice (some ⟨gt, 0, none⟩) st.ts.length ct) (.int .i64 st.tm) (.slice ao ps.length c0)
   have hec := HXE.cell
   have HBE : Below w.heap.size w _ := (HB1.out.alloc HB1.out.size (.cells #[(.slice (some ⟨h1, 0, none⟩) y.n d1), (.slice (some ⟨h2, 0, none⟩) y.m d2)] 31)).trans (HFE.below (B := w.heap.size) (fun k hk => by omega) (by simp; omega))
   exact bodyPost_ret (v := .tuple #[.agg #[.slice (some ⟨g1, 0, none⟩) st.x.n c1, .slice (some ⟨g2, 0, none⟩) st.x.m c2, .slice (some ⟨gm, 0, none⟩) st.ms.length cm, .slice (some ⟨gt, 0, none⟩) st.ts.length ct, .int .i64 st.tm, .slice ao ps.length c0], .bool false]) (by simp [results, Tryz.results60, go_sem, hec]) rfl ⟨HBE, by rw [HN.out]⟩
def stpX (st : Ses) (ps : List Pt) (tx : Nat → ByteArray) (n : Nat) : Nat → Option (Ses × List Pt)
  | 0 => (nwO (nmF (tx 1)) (nmF (tx 2))).map fun y => ({ x := y, tm := 0, ms := [], ts := [] }, [])
  | 1 => if st.tm + nmF (tx 1) ≤ 2000 then some ({ st with tm := st.tm + nmF (tx 1) }, ps) else none
  | 2 => (doX st [(nmF (tx 1), tx 2)]).map fun s => (s, ps)
  | 3 => (doX st (fnL st.x)).map fun s => (s, ps)
  | 7 => if n = st.x.n + 2 then (adO ps st.x.n st.x.n (fun i => nmF (tx (i + 2))) (nmF (tx 1))).map fun l => (st, ps ++ [ftP l (fun i => nmF (tx (i + 2))) st.x.n]) else some (st, ps)
  | _ => some (st, ps)
def sayX (st : Ses) (ps : List Pt) (tx : Nat → ByteArray) (n : Nat) : Nat → ByteArray
  | 0 => okT
  | 1 => okT
  | 2 => okT
  | 3 => ⟨#[109, 111, 118, 101, 115, 32]⟩ ++ itT (fnL st.x).length
  | 7 => if n = st.x.n + 2 then (match adO ps st.x.n st.x.n (fun i => nmF (tx (i + 2))) (nmF (tx 1)) with | some l => spT (ftP l (fun i => nmF (tx (i + 2))) st.x.n).I st.x.n | none => noT) else whatT
  | k => askX st ps tx k
theorem st6_both {w : World} {b : Nat} {t : TypeId} {a0 a1 a2 a3 a4 a5 : Value} (h : Bx w b t #[a0, a1, a2, a3, a4, a5]) (v0 v1 v2 v3 v4 v5 : Value) :
    Bx ((((((w.setCell ⟨b, 0, none⟩ v0).setCell ⟨b, 1, none⟩ v1).setCell ⟨b, 2, none⟩ v2).setCell ⟨b, 3, none⟩ v3).setCell ⟨b, 4, none⟩ v4).setCell ⟨b, 5, none⟩ v5) b t #[v0, v1, v2, v3, v4, v5] ∧ Fr (fun q => q = b) w ((((((w.setCell ⟨b, 0, none⟩ v0).setCell ⟨b, 1, none⟩ v1).setCell ⟨b, 2, none⟩ v2).setCell ⟨b, 3, none⟩ v3).setCell ⟨b, 4, none⟩ v4).setCell ⟨b, 5, none⟩ v5) :=
  ⟨bx_st6 h v0 v1 v2 v3 v4 v5, fr_st6 w b v0 v1 v2 v3 v4 v5⟩
def PnW (ai : Option Addr) (ps : List Pt) (ao : Option Addr) (ps' : List Pt) (w w' : World) : Prop :=
 ps' = [] ∨ (ao = ai ∧ ps' = ps) ∨ ∃ g c, ao = some ⟨g, 0, none⟩ ∧ w.heap.size ≤ g ∧ OwPs w.heap.size w' g c ps'.length (pA ps')
def LiR (st : Ses) (ps : List Pt) (ai : Option Addr) (o : Option (Ses × List Pt)) (t : ByteArray) (w : World) (e : Ending) (w' : World) : Prop :=
 Below w.heap.size w w' ∧ match o with
  | none => ∃ g1 c1 g2 c2 gm cm gt ct ao c0, e = .returned (.tuple #[.agg #[.slice (some ⟨g1, 0, none⟩) st.x.n c1, .slice (some ⟨g2, 0, none⟩) st.x.m c2, .slice (some ⟨gm, 0, none⟩) st.ms.length cm, .slice (some ⟨gt, 0, none⟩) st.ts.length ct, .int .i64 st.tm, .slice ao ps.length c0], .string (noT ++ ⟨#[10]⟩)]) ∧ SpM w' g1 g2 gm gt ao st ps ∧ PnW ai ps ao ps w w'
  | some (st, ps') => ∃ g1 c1 g2 c2 gm cm gt ct ao c0, e = .returned (.tuple #[.agg #[.slice (some ⟨g1, 0, none⟩) st.x.n c1, .slice (some ⟨g2, 0, none⟩) st.x.m c2, .slice (some ⟨gm, 0, none⟩) st.ms.length cm, .slice (some ⟨gt, 0, none⟩) st.ts.length ct, .int .i64 st.tm, .slice ao ps'.length c0], .string (t ++ ⟨#[10]⟩)]) ∧ SpM w' g1 g2 gm gt ao st ps' ∧ PnW ai ps ao ps' w w'
structure LiM (w wr : World) (b7 gn bw q : Nat) (tx : Nat → ByteArray) (cs c4 c7 : Array Value) : Prop where
  x2 : Bx wr w.heap.size 68 cs
  x4 : Bx wr (w.heap.size + 1) 68 c4
  x7 : Bx wr b7 68 c7
  bl : Below w.heap.size w wr
  nu : IC wr gn 0 q (fun i => nmF (tx (i + 1)))
  z7 : w.heap.size + 1 < b7
  zn : w.heap.size + 1 < gn
  n7 : gn < b7
  lw : bw < w.heap.size
  wd : ∀ i, i < q + 1 → wr.cell? ⟨bw, i, none⟩ = some (.string (tx i))
theorem LiM.below {w wr wa : World} {b7 gn bw q : Nat} {tx : Nat → ByteArray} {cs c4 c7 : Array Value} (h : LiM w wr b7 gn bw q tx cs c4 c7) (hb : Below wr.heap.size wr wa) : LiM w wa b7 gn bw q tx cs c4 c7 :=
 ⟨h.x2.below hb h.x2.lt, h.x4.below hb h.x4.lt, h.x7.below hb h.x7.lt, h.bl.trans (hb.mono h.bl.size), h.nu.keep hb, h.z7, h.zn, h.n7, h.lw, fun i hi => by
  rw [hb.cell (p := ⟨bw, i, none⟩) (Nat.lt_of_lt_of_le h.lw h.bl.size)]
  exact h.wd i hi⟩
theorem LiM.set7 {w wr : World} {b7 gn bw q : Nat} {tx : Nat → ByteArray} {cs c4 c7 : Array Value} (h : LiM w wr b7 gn bw q tx cs c4 c7) (o : Nat) (v : Value) : LiM w (wr.setCell ⟨b7, o, none⟩ v) b7 gn bw q tx cs c4 (c7.setIfInBounds o v) := by
 have h7 := h.z7
 have hn := h.n7
 have hw := h.lw
 refine ⟨h.x2.setOther (by show w.heap.size ≠ b7; omega) _, h.x4.setOther (by show w.heap.size + 1 ≠ b7; omega) _, h.x7.set o v, h.bl.setCell (by show w.heap.size ≤ b7; omega) v, fun i hi => ?_, h.z7, h.zn, h.n7, h.lw, fun i hi => ?_⟩
 ·rw [World.cell?_of_block (w := wr) (Below.heap_setCell _ _ _ _ (by show gn ≠ b7; omega))]
  exact h.nu i hi
 ·rw [World.cell?_of_block (w := wr) (Below.heap_setCell _ _ _ _ (by show bw ≠ b7; omega))]
  exact h.wd i hi
theorem LiM.st6 {w wr : World} {b7 gn bw q : Nat} {tx : Nat → ByteArray} {cs c4 : Array Value} {a0 a1 a2 a3 a4 a5 : Value} (h : LiM w wr b7 gn bw q tx cs c4 #[a0, a1, a2, a3, a4, a5]) (v0 v1 v2 v3 v4 v5 : Value) : LiM w ((((((wr.setCell ⟨b7, 0, none⟩ v0).setCell ⟨b7, 1, none⟩ v1).setCell ⟨b7, 2, none⟩ v2).setCell ⟨b7, 3, none⟩ v3).setCell ⟨b7, 4, none⟩ v4).setCell ⟨b7, 5, none⟩ v5) b7 gn bw q tx cs c4 #[v0, v1, v2, v3, v4, v5] := by
 simpa using (((((h.set7 0 v0).set7 1 v1).set7 2 v2).set7 3 v3).set7 4 v4).set7 5 v5
end Go.Proofs.YtlkdmpfifpkpaaaGreatDoor

