/-
  Parts of the proof: Sb Ka Sh. No condition.
-/
import Derived.Lib.Builder
import Derived.Lib.AppendStr
import Derived.Lib.UnsafeStr
import Derived.Lib.Slices
import Derived.Laws.Externs
import Derived.Shelf.Strings.Builder1
import Derived.Shelf.Strings.Builder2
import Derived.Shelf.Strings.OnBuilder
import Derived.Shelf.Strings.BuilderF
import Derived.Shelf.Strconv.Itoa0
import Derived.Shelf.Strconv.Itoa1
import Derived.Shelf.LaysM
import Derived.Shelf.Strconv.Itoa2
import Derived.Shelf.Strconv.Itoa3
import Derived.Shelf.Strings.Search1
import Derived.Shelf.Strings.Search2
import Derived.Shelf.Strings.Search3
import Derived.Shelf.Strings.Count
import Derived.Shelf.Strings.Shaped
import Derived.Shelf.Strings.Split
import Derived.Shelf.Strings.SplitShaped
import Derived.Shelf.Unicode.DecodeSlow
import Derived.Test.YtlkdmpfifpkpaaaGreatDoorProg
import Derived.Test.YtlkdmpfifpkpaaaGreatDoorV04
namespace Go.Proofs.YtlkdmpfifpkpaaaGreatDoor
open Go.RowKit
abbrev Sb (B b : Nat) (bs : List Value) (w : World) : Prop := Lib.IsBuilder 59 5 B b bs w
abbrev SbU (B b : Nat) (bs : List Value) (w : World) : Prop := Lib.BuilderAt 59 5 B b (.pointer (some ⟨b, 0, none⟩)) bs w
set_option maxRecDepth 100000 in
set_option maxHeartbeats 1000000 in
theorem copyCheck_any (B b : Nat) (bs : List Value) (w : World) (h : Sb B b bs w) :
    Calls Tryz.prog 55 #[.pointer (some ⟨b, 0, none⟩)] w fun e w' => e = .returned (.tuple #[]) ∧ SbU B b bs w' ∧ Below B w w' := by
  have hs1 : (Tryz.prog.info? 59).map (·.size) = some 2 := by kernel_rfl
  obtain ⟨j, hj, hjs⟩ := Option.map_eq_some_iff.1 hs1
  have hJ := Lib.hid hj
  have hJS := Lib.hid hjs
  have hlies : liesAt Tryz.prog Tryz.prog.depth 59 (2 / Tryz.prog.cellsOf 59) 0 59 1 = true := by kernel_rfl
  have HL := Lib.hid hlies
  clear hs1 hj hjs hlies
  rcases h with h | h
  ·have HB := Lib.hid h
   have hc := h.cell0
   have hf := h.frozen0
   have HSH := Lib.hid h.shape
   clear h
   go_enter Tryz.func55, Tryz.ntmps55
   go_wp2_with fail
   rw [Lib.run_to_unsafe (P := Tryz.prog) (w := w) ⟨b, 0, none⟩ Tryz.underlying57 Tryz.underlying112 hJ.out (by rw [hJS.out]; decide) HSH.out (Nat.zero_lt_succ 1)]
   simp only [Result.andThen]
   rw [Oper.upon_value]
   go_wp2_with fail
   rw [run_callFunc_extern Tryz.func73 (by kernel_rfl) (by kernel_rfl) (by kernel_rfl) (e := Extern.AbiNoEscape.same) (by kernel_rfl)]
   rw [Lib.run_noEscape]
   simp only [Result.andThen]
   rw [Oper.upon_value]
   go_wp2_with fail
   rw [Lib.run_from_unsafe (P := Tryz.prog) (w := w) ⟨b, 0, none⟩ Tryz.underlying112 Tryz.underlying57 hJ.out HSH.out HL.out]
   simp only [Result.andThen]
   rw [Oper.upon_value]
   go_wp2_with fail
   go_end0
   exact ⟨rfl, HB.out.used _, (Below.refl B w).setCell (p := ⟨b, 0, none⟩) HB.out.1 _⟩
  ·have HB := Lib.hid h
   have hc := h.cell0
   clear h
   go_enter Tryz.func55, Tryz.ntmps55
   go_wp2_with fail
   rw [Lib.run_neq_ptr_same (P := Tryz.prog) (w := w) _ Tryz.underlying57 hJ.out]
   go_wp2_with fail
   go_end0
   exact ⟨rfl, HB.out, Below.refl B _⟩
set_option maxRecDepth 100000 in
set_option maxHeartbeats 2000000 in
theorem writeByte_any (B b : Nat) (bs : List Value) (c : Int) (w : World) (h : Sb B b bs w) (hlen : bs.length + 1 ≤ 140737488355328) (hBw : B ≤ w.heap.size) :
    Calls Tryz.prog 173 #[.pointer (some ⟨b, 0, none⟩), .int .u8 c] w fun e w' => e = .returned .nilIface ∧ SbU B b (bs ++ [.int .u8 c]) w' ∧ Below B w w' := by
  have HH := Lib.hid h
  clear h
  obtain ⟨i0, hi, hz0, hz1, hz2⟩ := info_parts (P := Tryz.prog) (e := 5) (z := .int .u8 0) (size := 1) (bytes := 1) (by kernel_rfl)
  have HI := Lib.hid hi
  clear hi
  go_enter Tryz.func173, Tryz.ntmps173
  go_wp2_with (go_at_call 55; go_must (refine (copyCheck_any B b bs _ HH.out).mono ?_))
  rintro e w1 ⟨rfl, h1, hb1⟩
  obtain ⟨hB, v, hbk, hown, hne⟩ := h1
  have c0 : w1.cell? ⟨b, 0, none⟩ = some (.pointer (some ⟨b, 0, none⟩)) := by rw [Lib.cell_of_heap hbk]; rfl
  have c1 : w1.cell? ⟨b, 1, none⟩ = some v := by rw [Lib.cell_of_heap hbk]; rfl
  have HBK := Lib.hid hbk
  clear hbk
  go_wp2_with (at_builtin; refine wpList_append_own _ rfl _ _ 22 rfl B 5 i0 (.int .u8 0) 1 1 Tryz.underlying22 HI.out hz0 hz1 hz2 rfl (by decide) _ _ _ rfl (hown.alloc _) ⟨w1.heap.size, 0, none⟩ 1 1 [.int .u8 c] rfl rfl ?c1 ?c2 ?c3 ?c4 ?c5 ?_)
  case c1 =>
   intro j u hj
   match j, hj with
   | 0, hj => simp at hj; subst hj; simp [Addr.add]
  case c2 => intro u hu; simp at hu; subst hu; rfl
  case c3 => unfold maxLen; omega
  case c4 => omega
  case c5 => have := hb1.size; simp; omega
  intro v' w2 hown' hgrow _
  have hbk := HBK.out
  have hlt : b < w1.heap.size := by
   rcases Nat.lt_or_ge b w1.heap.size with h' | h'
   ·exact h'
   ·simp [Array.getElem?_eq_none h'] at hbk
  have hb2 : w2.heap[b]? = some (.cells #[.pointer (some ⟨b, 0, none⟩), v] 59 (0, 0)) := by
   rw [hgrow.block b (by simp; omega) (fun e => hne e.symm), Lib.alloc_old w1 _ b hlt]
   exact hbk
  have d0 : w2.cell? ⟨b, 0, none⟩ = some (.pointer (some ⟨b, 0, none⟩)) := by rw [Lib.cell_of_heap hb2]; rfl
  have d1 : w2.cell? ⟨b, 1, none⟩ = some v := by rw [Lib.cell_of_heap hb2]; rfl
  have f1 : w2.frozen? ⟨b, 1, none⟩ = false := Lib.frozen_of_heap hb2 1
  obtain ⟨g, cap, rfl⟩ : ∃ g cap, v' = .slice (some ⟨g, 0, none⟩) (bs.length + 1) cap := by
   rcases hown'.2 with ⟨_, h0⟩ | ⟨g, cap, cur, hv, _⟩
   ·omega
   ·exact ⟨g, cap, hv⟩
  have HB2 := Lib.hid hb2
  clear hb2 hbk
  go_wp2_with fail
  go_ret
  refine ⟨rfl, ?_, ?_⟩
  ·exact Lib.BuilderAt.put (T := 59) (e := 5) hB HB2.out (bs' := bs ++ [.int .u8 c]) (by simpa using hown') (by decide)
  ·exact ((hb1.alloc (by have := hb1.size; omega) _).grown hgrow (by have := hb1.size; simp; omega) (fun k hk => (hown.lt k hk).1)).setCell (p := ⟨b, 1, none⟩) hB _
set_option maxHeartbeats 1000000 in
set_option maxRecDepth 100000 in
theorem string (B b : Nat) (l : List UInt8) (w : World) (h : Lib.IsBuilder 59 5 B b (Lib.byteCells l) w) (h0 : l ≠ []) :
    Calls Tryz.prog 39 #[.pointer (some ⟨b, 0, none⟩)] w fun e w' => e = .returned (.string ⟨l.toArray⟩) ∧ Below B w w' := by
  obtain ⟨p, hB, v, hbk, hown, hne⟩ : ∃ p, Lib.BuilderAt 59 5 B b p (Lib.byteCells l) w := by
   rcases h with h | h
   ·exact ⟨_, h⟩
   ·exact ⟨_, h⟩
  have hl0 : l.length ≠ 0 := by simpa using h0
  rw [Lib.byteCells_length] at hown
  obtain ⟨g, cap, cur, rfl, hbg, hg, hnc, hcm, hcs, htake⟩ : ∃ g cap cur, v = .slice (some ⟨g, 0, none⟩) l.length cap ∧ B ≤ g ∧ w.heap[g]? = some (.cells cur 5 (0, 0)) ∧ l.length ≤ cap ∧ cap ≤ maxLen ∧ cur.size = cap * 1 ∧ cur.toList.take (l.length * 1) = Lib.byteCells l := by
   rcases hown.2 with ⟨_, hz⟩ | ⟨g, cap, cur, hv, r⟩
   ·exact absurd hz hl0
   ·exact ⟨g, cap, cur, hv, r⟩
  have c1 : w.drew.cell? ⟨b, 1, none⟩ = some (.slice (some ⟨g, 0, none⟩) l.length cap) := by
   have : w.drew.heap[b]? = some (.cells #[p, .slice (some ⟨g, 0, none⟩) l.length cap] 59 (0, 0)) := hbk
   rw [Lib.cell_of_heap this]; rfl
  have hSD : (Builtin.unsafeSliceData_ #[22] 89 #[.slice (some ⟨g, 0, none⟩) l.length cap]).run Tryz.prog w.drew = .ok (.pointer (some ⟨g, 0, none⟩)) w.drew :=
   Lib.run_unsafeSliceData_row _ _ _ _ _ _ (by omega)
  have hUS : (Builtin.unsafeString_ #[89, 3] 9 #[.pointer (some ⟨g, 0, none⟩), .int .i64 l.length]).run Tryz.prog w.drew = .ok (.string ⟨l.toArray⟩) (w.drew.freeze ⟨g, 0, none⟩ l.length) := by
   refine Lib.run_unsafeString_row w.drew 89 3 9 5 Tryz.underlying89 (by kernel_rfl) g cur.size (by have hg' : w.drew.heap[g]? = some (.cells cur 5 (0, 0)) := hg; simp [World.shape?, hg']) l h0 (by omega) (by unfold maxLen at hcm; omega) ?_
   intro j x hx
   have := hown.cells (g := g) rfl j (.int .u8 x.toNat) (by simp [Lib.byteCells, hx])
   exact this
  go_enter Tryz.func39, Tryz.ntmps39
  go_wp2_with fail
  go_region
  all_goals (go_wp2_with fail; go_ret; exact ⟨rfl, Lib.below_freeze (Below.drew (Below.refl B w)) (p := ⟨g, 0, none⟩) hbg _⟩)
theorem unsafeString_none (W : World) (q : Option Addr) : (Builtin.unsafeString_ #[89, 3] 9 #[.pointer q, .int .i64 0]).run Tryz.prog W = .ok (.string .empty) W :=
 Lib.run_unsafeString_none W _ _ _ q
set_option maxHeartbeats 2000000 in
set_option maxRecDepth 100000 in
theorem string_nil (B b : Nat) (p : Value) (w : World) (hbk : w.heap[b]? = some (.cells #[p, .slice none 0 0] 59 (0, 0))) :
    Calls Tryz.prog 39 #[.pointer (some ⟨b, 0, none⟩)] w fun e w' => e = .returned (.string ⟨#[]⟩) ∧ Below B w w' := by
  have hUS := unsafeString_none
  have c1 : w.drew.cell? ⟨b, 1, none⟩ = some (.slice none 0 0) := by
   have : w.drew.heap[b]? = some (.cells #[p, .slice none 0 0] 59 (0, 0)) := hbk
   rw [Lib.cell_of_heap this]; rfl
  have hSD : (Builtin.unsafeSliceData_ #[22] 89 #[.slice none 0 0]).run Tryz.prog w.drew = .ok (.pointer none) w.drew := rfl
  go_enter Tryz.func39, Tryz.ntmps39
  go_wp2_with fail
  go_region
  all_goals (go_wp2_with fail; go_ret; exact ⟨rfl, Below.drew (Below.refl B w)⟩)
set_option maxHeartbeats 2000000 in
set_option maxRecDepth 100000 in
theorem string_noroom (B b g : Nat) (p : Value) (cur : Array Value) (w : World) (hBw : B ≤ w.heap.size) (hbk : w.heap[b]? = some (.cells #[p, .slice (some ⟨g, 0, none⟩) 0 0] 59 (0, 0))) (hg : w.heap[g]? = some (.cells cur 5 (0, 0))) :
    Calls Tryz.prog 39 #[.pointer (some ⟨b, 0, none⟩)] w fun e w' => e = .returned (.string ⟨#[]⟩) ∧ Below B w w' := by
  have hUS := unsafeString_none
  have hlt : b < w.heap.size := by
   rcases Nat.lt_or_ge b w.heap.size with h' | h'
   ·exact h'
   ·simp [Array.getElem?_eq_none h'] at hbk
  have c1 : w.drew.cell? ⟨b, 1, none⟩ = some (.slice (some ⟨g, 0, none⟩) 0 0) := by
   have : w.drew.heap[b]? = some (.cells #[p, .slice (some ⟨g, 0, none⟩) 0 0] 59 (0, 0)) := hbk
   rw [Lib.cell_of_heap this]; rfl
  have hSD : (Builtin.unsafeSliceData_ #[22] 89 #[.slice (some ⟨g, 0, none⟩) 0 0]).run Tryz.prog w.drew = .ok (.pointer (some ⟨w.drew.heap.size, 0, none⟩)) (w.drew.alloc (.view ⟨g, 0, none⟩ 5)) :=
   Lib.run_unsafeSliceData_zero w.drew _ _ 5 Tryz.underlying89 ⟨g, 0, none⟩ 0 (5, cur.size) (by have hg' : w.drew.heap[g]? = some (.cells cur 5 (0, 0)) := hg; simp [World.shape?, hg'])
  have c2 : (w.drew.alloc (.view ⟨g, 0, none⟩ 5)).cell? ⟨b, 1, none⟩ = some (.slice (some ⟨g, 0, none⟩) 0 0) := by
   have : (w.drew.alloc (.view ⟨g, 0, none⟩ 5)).heap[b]? = _ := (Lib.alloc_old w.drew _ b hlt).trans hbk
   rw [Lib.cell_of_heap this]; rfl
  -- (the same fact as the how-to's newer walk spells the world; and of w itself, to which the elder walk comes down)
  have c3 : (w.alloc (.view ⟨g, 0, none⟩ 5)).drew.cell? ⟨b, 1, none⟩ = some (.slice (some ⟨g, 0, none⟩) 0 0) := c2
  have c0 : w.cell? ⟨b, 1, none⟩ = some (.slice (some ⟨g, 0, none⟩) 0 0) := c1
  go_enter Tryz.func39, Tryz.ntmps39
  go_wp2_with fail
  go_region
  all_goals (go_wp2_with fail; go_ret; exact ⟨rfl, (Below.drew (Below.refl B w)).alloc hBw _⟩)
set_option maxHeartbeats 2000000 in
set_option maxRecDepth 100000 in
theorem string_room (B b g cap : Nat) (p : Value) (w : World) (hc0 : cap ≠ 0) (hbk : w.heap[b]? = some (.cells #[p, .slice (some ⟨g, 0, none⟩) 0 cap] 59 (0, 0))) :
    Calls Tryz.prog 39 #[.pointer (some ⟨b, 0, none⟩)] w fun e w' => e = .returned (.string ⟨#[]⟩) ∧ Below B w w' := by
  have hUS := unsafeString_none
  have c1 : w.drew.cell? ⟨b, 1, none⟩ = some (.slice (some ⟨g, 0, none⟩) 0 cap) := by
   have : w.drew.heap[b]? = some (.cells #[p, .slice (some ⟨g, 0, none⟩) 0 cap] 59 (0, 0)) := hbk
   rw [Lib.cell_of_heap this]; rfl
  have hSD : (Builtin.unsafeSliceData_ #[22] 89 #[.slice (some ⟨g, 0, none⟩) 0 cap]).run Tryz.prog w.drew = .ok (.pointer (some ⟨g, 0, none⟩)) w.drew :=
   Lib.run_unsafeSliceData_row _ _ _ _ _ _ hc0
  clear hc0
  go_enter Tryz.func39, Tryz.ntmps39
  go_wp2_with fail
  go_region
  all_goals (go_wp2_with fail; go_ret; exact ⟨rfl, Below.drew (Below.refl B w)⟩)
theorem string_empty (B b : Nat) (w : World) (h : Lib.IsBuilder 59 5 B b [] w) (hBw : B ≤ w.heap.size) :
    Calls Tryz.prog 39 #[.pointer (some ⟨b, 0, none⟩)] w fun e w' => e = .returned (.string ⟨#[]⟩) ∧ Below B w w' := by
  obtain ⟨p, hB, v, hbk, hown, hne⟩ : ∃ p, Lib.BuilderAt 59 5 B b p [] w := by
   rcases h with h | h
   ·exact ⟨_, h⟩
   ·exact ⟨_, h⟩
  rcases hown.2 with ⟨rfl, _⟩ | ⟨g, cap, cur, rfl, hbg, hg, _, _, _, _⟩
  ·exact string_nil B b p w hbk
  ·by_cases hc0 : cap = 0
   ·subst hc0
    exact string_noroom B b g p cur w hBw hbk hg
   ·exact string_room B b g cap p w hc0 hbk
theorem string_any (B b : Nat) (l : List UInt8) (w : World) (h : Lib.IsBuilder 59 5 B b (Lib.byteCells l) w) (hBw : B ≤ w.heap.size) :
    Calls Tryz.prog 39 #[.pointer (some ⟨b, 0, none⟩)] w fun e w' => e = .returned (.string ⟨l.toArray⟩) ∧ Below B w w' := by
  cases l with
  | nil => exact string_empty B b w h hBw
  | cons x r => exact string B b (x :: r) w h (by simp)
def pE (es : List Nat) (i : Nat) : Value := match es[i]? with | some b => .pointer (some ⟨b, 0, none⟩) | none => .pointer none
theorem pE_some {es : List Nat} {i : Nat} (h : i < es.length) : pE es i = .pointer (some ⟨es.getD i 0, 0, none⟩) := by
 unfold pE
 rw [List.getD_eq_getElem?_getD, List.getElem?_eq_getElem h]
 rfl
theorem pE_none {es : List Nat} {i : Nat} (h : es.length ≤ i) : pE es i = .pointer none := by
 unfold pE
 rw [List.getElem?_eq_none h]
theorem pE_old {es : List Nat} {i b : Nat} (h : i < es.length) : pE (es ++ [b]) i = pE es i := by
 unfold pE
 rw [List.getElem?_append_left h]
theorem pE_new {es : List Nat} {b : Nat} : pE (es ++ [b]) es.length = .pointer (some ⟨b, 0, none⟩) := by
 unfold pE
 simp
theorem gD_old {es : List Nat} {i b : Nat} (h : i < es.length) : (es ++ [b]).getD i 0 = es.getD i 0 := by
 rw [List.getD_eq_getElem?_getD, List.getD_eq_getElem?_getD, List.getElem?_append_left h]
theorem gD_new {es : List Nat} {b : Nat} : (es ++ [b]).getD es.length 0 = b := by
 rw [List.getD_eq_getElem?_getD]
 simp
def nM (ns : List (Int × ByteArray)) (i : Nat) : Int := ((ns[i]?).map (·.1)).getD 0
def nL (ns : List (Int × ByteArray)) (i : Nat) : ByteArray := ((ns[i]?).map (·.2)).getD ⟨#[]⟩
theorem nM_at {ns : List (Int × ByteArray)} {i : Nat} (h : i < ns.length) : nM ns i = (ns[i]).1 := by unfold nM; rw [List.getElem?_eq_getElem h]; rfl
theorem nL_at {ns : List (Int × ByteArray)} {i : Nat} (h : i < ns.length) : nL ns i = (ns[i]).2 := by unfold nL; rw [List.getElem?_eq_getElem h]; rfl
theorem nM_old {ns : List (Int × ByteArray)} {z : Int × ByteArray} {i : Nat} (h : i < ns.length) : nM (ns ++ [z]) i = nM ns i ∧ nL (ns ++ [z]) i = nL ns i := by
 unfold nM nL
 rw [List.getElem?_append_left h]
 exact ⟨rfl, rfl⟩
theorem nM_new {ns : List (Int × ByteArray)} {z : Int × ByteArray} : nM (ns ++ [z]) ns.length = z.1 ∧ nL (ns ++ [z]) ns.length = z.2 := by
 unfold nM nL
 simp
structure RgC (w : World) (r : Nat) (es : List Nat) (ns : List (Int × ByteArray)) : Prop where
  box : Bx w r 210 #[pE es 0, pE es (es.length - 1), .int .i64 es.length]
  len : es.length = ns.length
  ent : ∀ i, i < es.length → Bx w (es.getD i 0) 213 #[.int .i64 (nM ns i), .string (nL ns i), pE es (i + 1)]
  dst : ∀ i, i < es.length → es.getD i 0 ≠ r
  inj : ∀ i j, i < es.length → j < es.length → es.getD i 0 = es.getD j 0 → i = j
theorem RgC.below {w w' : World} {r B : Nat} {es : List Nat} {ns : List (Int × ByteArray)} (h : RgC w r es ns) (hb : Below B w w') (hB : w.heap.size ≤ B) : RgC w' r es ns :=
 ⟨h.box.below hb (Nat.lt_of_lt_of_le h.box.lt hB), h.len, fun i hi => (h.ent i hi).below hb (Nat.lt_of_lt_of_le (h.ent i hi).lt hB), h.dst, h.inj⟩
theorem RgC.alloc {w : World} {r : Nat} {es : List Nat} {ns : List (Int × ByteArray)} (h : RgC w r es ns) (o : Obj) : RgC (w.alloc o) r es ns := h.below (below_all _ _) (Nat.le_refl _)
theorem RgC.nil {w : World} {r : Nat} (h : Bx w r 210 #[.pointer none, .pointer none, .int .i64 0]) : RgC w r [] [] :=
 ⟨h, rfl, fun i hi => by simp at hi, fun i hi => by simp at hi, fun i j hi => by simp at hi⟩
def ixE (es : List Nat) : Value → Nat
  | .pointer (some a) => ((List.range es.length).find? (fun i => decide (es.getD i 0 = a.block))).getD es.length
  | _ => es.length
theorem RgC.ix {w : World} {r : Nat} {es : List Nat} {ns : List (Int × ByteArray)} (h : RgC w r es ns) {i : Nat} (hi : i ≤ es.length) : ixE es (pE es i) = i := by
 rcases Nat.lt_or_ge i es.length with h1 | h1
 ·rw [pE_some h1]
  show ((List.range es.length).find? (fun j => decide (es.getD j 0 = es.getD i 0))).getD es.length = i
  cases e : (List.range es.length).find? (fun j => decide (es.getD j 0 = es.getD i 0)) with
  | none =>
   have h2 := List.find?_eq_none.1 e i (List.mem_range.2 h1)
   simp at h2
  | some j =>
   have h2 := List.find?_some e
   have h3 := List.mem_range.1 (List.mem_of_find?_eq_some e)
   exact h.inj j i h3 h1 (by simpa using h2)
 ·obtain rfl : i = es.length := by omega
  rw [pE_none (Nat.le_refl _)]
  rfl
def RgB (B r : Nat) (es : List Nat) : Prop := B ≤ r ∧ ∀ i, i < es.length → B ≤ es.getD i 0
theorem RgB.push {B r b : Nat} {es : List Nat} (h : RgB B r es) (hb : B ≤ b) : RgB B r (es ++ [b]) := ⟨h.1, fun i hi => by
 rcases Nat.lt_or_ge i es.length with h1 | h1
 ·rw [gD_old h1]; exact h.2 i h1
 ·simp at hi
  obtain rfl : i = es.length := by omega
  rw [gD_new]; exact hb⟩
theorem bx3s {w : World} {b : Nat} {t : TypeId} {v0 v1 v2 : Value} (h : Bx w b t #[v0, v1, v2]) (u0 u1 u2 : Value) : Bx (((w.setCell ⟨b, 0, none⟩ u0).setCell ⟨b, 1, none⟩ u1).setCell ⟨b, 2, none⟩ u2) b t #[u0, u1, u2] := by
 have := ((h.set 0 u0).set 1 u1).set 2 u2
 simpa using this
theorem RgC.put0 {w : World} {r : Nat} (h : RgC w r [] []) (z : Int × ByteArray) (A : Obj) (b : Nat) (hb : b = w.heap.size + 1) :
    RgC (((((w.setCell ⟨r, 0, none⟩ (.pointer (some ⟨b, 0, none⟩))).setCell ⟨r, 1, none⟩ (.pointer (some ⟨b, 0, none⟩))).setCell ⟨r, 2, none⟩ (.int .i64 1)).alloc A).alloc (.cells #[.int .i64 z.1, .string z.2, .pointer none] 213)) r [b] [z] := by
  have hl := h.box.lt
  refine ⟨?_, rfl, fun i hi => ?_, fun i hi => ?_, fun i j hi hj _ => ?_⟩
  ·exact ((bx3s h.box _ _ _).alloc _).alloc _
  ·obtain rfl : i = 0 := by simpa using hi
   exact Bx.newAt (by simp [World.setCell]; omega)
  ·obtain rfl : i = 0 := by simpa using hi
   show b ≠ r
   omega
  ·simp at hi hj
   omega
theorem RgC.put1 {w : World} {r : Nat} {es : List Nat} {ns : List (Int × ByteArray)} (h : RgC w r es ns) (h0 : 0 < es.length) (z : Int × ByteArray) (A : Obj) (b : Nat) (hb : b = w.heap.size + 1) :
    RgC (((((w.setCell ⟨es.getD (es.length - 1) 0, 2, none⟩ (.pointer (some ⟨b, 0, none⟩))).setCell ⟨r, 1, none⟩ (.pointer (some ⟨b, 0, none⟩))).setCell ⟨r, 2, none⟩ (.int .i64 ((es.length : Int) + 1))).alloc A).alloc (.cells #[.int .i64 z.1, .string z.2, .pointer none] 213)) r (es ++ [b]) (ns ++ [z]) := by
  have hl := h.box.lt
  have hlen := h.len
  have hne := h.dst (es.length - 1) (by omega)
  refine ⟨?_, by simp [hlen], fun i hi => ?_, fun i hi => ?_, fun i j hi hj e => ?_⟩
  ·have h1 := ((h.box.setOther (a := ⟨es.getD (es.length - 1) 0, 2, none⟩) (fun e => hne e.symm) (.pointer (some ⟨b, 0, none⟩))).set 1 (.pointer (some ⟨b, 0, none⟩))).set 2 (.int .i64 ((es.length : Int) + 1))
   have h2 := (h1.alloc A).alloc (.cells #[.int .i64 z.1, .string z.2, .pointer none] 213)
   rw [show (es ++ [b]).length - 1 = es.length by simp, pE_new, pE_old h0]
   simpa using h2
  ·simp at hi
   rcases Nat.lt_or_ge i es.length with h1 | h1
   ·rw [gD_old h1, (nM_old (z := z) (show i < ns.length by omega)).1, (nM_old (z := z) (show i < ns.length by omega)).2]
    have he := h.ent i h1
    by_cases e : i = es.length - 1
    ·subst e
     rw [show es.length - 1 + 1 = es.length by omega, pE_new]
     have h3 := ((he.set 2 (.pointer (some ⟨b, 0, none⟩))).setOther (a := ⟨r, 1, none⟩) hne (.pointer (some ⟨b, 0, none⟩))).setOther (a := ⟨r, 2, none⟩) hne (.int .i64 ((es.length : Int) + 1))
     have h4 := (h3.alloc A).alloc (.cells #[.int .i64 z.1, .string z.2, .pointer none] 213)
     simpa using h4
    ·rw [pE_old (show i + 1 < es.length by omega)]
     have hn2 := h.dst i h1
     have hn3 : es.getD i 0 ≠ es.getD (es.length - 1) 0 := fun q => e (h.inj i (es.length - 1) h1 (by omega) q)
     exact ((((he.setOther (a := ⟨es.getD (es.length - 1) 0, 2, none⟩) hn3 _).setOther (a := ⟨r, 1, none⟩) hn2 _).setOther (a := ⟨r, 2, none⟩) hn2 _).alloc _).alloc _
   ·obtain rfl : i = es.length := by omega
    rw [gD_new, hlen, nM_new.1, nM_new.2, pE_none (by simp [hlen])]
    exact Bx.newAt (by simp [World.setCell]; omega)
  ·simp at hi
   rcases Nat.lt_or_ge i es.length with h1 | h1
   ·rw [gD_old h1]; exact h.dst i h1
   ·obtain rfl : i = es.length := by omega
    rw [gD_new]; omega
  ·simp at hi hj
   have hlt : ∀ q, q < es.length → es.getD q 0 < b := fun q hq => by have := (h.ent q hq).lt; omega
   rcases Nat.lt_or_ge i es.length with h1 | h1
   ·rcases Nat.lt_or_ge j es.length with h2 | h2
    ·rw [gD_old h1, gD_old h2] at e; exact h.inj i j h1 h2 e
    ·obtain rfl : j = es.length := by omega
     rw [gD_old h1, gD_new] at e
     have := hlt i h1
     omega
   ·obtain rfl : i = es.length := by omega
    rcases Nat.lt_or_ge j es.length with h2 | h2
    ·rw [gD_old h2, gD_new] at e
     have := hlt j h2
     omega
    ·omega
set_option linter.unusedSimpArgs false in
set_option maxHeartbeats 1000000 in
theorem put_any (B r : Nat) (es : List Nat) (ns : List (Int × ByteArray)) (z : Int × ByteArray) (w : World) (h : RgC w r es ns) (hn : ns.length ≤ 1000000) (hB : RgB B r es) (hBw : B ≤ w.heap.size) :
    Calls Tryz.prog 175 #[.pointer (some ⟨r, 0, none⟩), .agg #[.int .i64 z.1, .string z.2]] w fun e w' => e = .returned (.tuple #[]) ∧ (∃ b, w.heap.size ≤ b ∧ RgC w' r (es ++ [b]) (ns ++ [z])) ∧ Below B w w' := by
  obtain ⟨s, l⟩ := z
  have hlen := h.len
  have hrl := h.box.lt
  have hrc := h.box.cell
  have hrf := h.box.free
  have HR := Lib.hid h
  have HLEN := Lib.hid hlen
  rcases Nat.eq_zero_or_pos es.length with h0 | h0
  ·obtain rfl : es = [] := List.length_eq_zero_iff.1 h0
   obtain rfl : ns = [] := List.length_eq_zero_iff.1 (by rw [← hlen]; rfl)
   clear h0 hlen h
   have hrc' : ∀ o, w.cell? ⟨r, o, none⟩ = (#[.pointer none, .pointer none, .int .i64 0] : Array Value)[o]? := hrc
   clear hrc
   go_enter Tryz.func175, Tryz.ntmps175
   go_wp2_with fail
   go_end0
   exact ⟨rfl, ⟨w.heap.size + 1, by omega, HR.out.put0 (s, l) _ _ rfl⟩, (((((Below.refl B w).setCell (p := ⟨r, 0, none⟩) hB.1 _).setCell (p := ⟨r, 1, none⟩) hB.1 _).setCell (p := ⟨r, 2, none⟩) hB.1 _).alloc (by simp; omega) _).alloc (by simp; omega) _⟩
  ·have he := h.ent (es.length - 1) (by omega)
   have hec := he.cell
   have hef := he.free
   have hel := he.lt
   have hne := h.dst (es.length - 1) (by omega)
   have hBe := hB.2 (es.length - 1) (by omega)
   have HP0 : Hid (pE es (es.length - 1) = .pointer (some ⟨es.getD (es.length - 1) 0, 0, none⟩)) := pE_some (by omega)
   rw [HP0.out] at hrc
   have HPUT := Lib.hid (h.put1 h0 (s, l) (.cells #[.int .i64 s, .string l] 155) (w.heap.size + 1) rfl)
   have hne2 : r ≠ es.getD (es.length - 1) 0 := fun e => hne e.symm
   clear he h hlen
   generalize es.getD (es.length - 1) 0 = eb at *
   have hn' : es.length ≤ 1000000 := by rw [HLEN.out]; exact hn
   have hp1 : pE es (es.length - 1 + 1) = .pointer none := pE_none (by omega)
   generalize pE es 0 = p0 at *
   generalize pE es (es.length - 1 + 1) = p1 at *
   subst hp1
   go_enter Tryz.func175, Tryz.ntmps175
   go_wp2_with fail
   go_end0
   exact ⟨rfl, ⟨w.heap.size + 1, by omega, HPUT.out⟩, (((((Below.refl B w).setCell (p := ⟨eb, 2, none⟩) hBe _).setCell (p := ⟨r, 1, none⟩) hB.1 _).setCell (p := ⟨r, 2, none⟩) hB.1 _).alloc (by simp; omega) _).alloc (by simp; omega) _⟩
end Go.Proofs.YtlkdmpfifpkpaaaGreatDoor
namespace Go.Proofs
open Go.Shelf
def Tryz.lays156_ren : Go.Shelf.Ren := ⟨fun | 156 => 127 | 165 => 148 | 166 => 36 | 169 => 39 | 240 => 55 | 241 => 168 | 276 => 73 | 277 => 174 | n => n, fun | 31 => 60 | 9 => 9 | 3 => 3 | 4 => 4 | 0 => 0 | 20 => 20 | 72 => 59 | 76 => 64 | 70 => 57 | 37 => 22 | 75 => 63 | 127 => 89 | 164 => 112 | 5 => 5 | 80 => 66 | n => n, fun | n => n⟩
theorem Tryz.lays156 : Go.Proofs.Lays.n156 Tryz.prog Tryz.lays156_ren := {
  mixed := by kernel_rfl
  f156 := Tryz.func127.trans (congrArg some (by kernel_rfl))
  f165 := Tryz.func148.trans (congrArg some (by kernel_rfl))
  f166 := Tryz.func36.trans (congrArg some (by kernel_rfl))
  f169 := Tryz.func39.trans (congrArg some (by kernel_rfl))
  f240 := Tryz.func55.trans (congrArg some (by kernel_rfl))
  f241 := Tryz.func168.trans (congrArg some (by kernel_rfl))
  f276 := Tryz.func73.trans (congrArg some (by kernel_rfl))
  f277 := Tryz.func174.trans (congrArg some (by kernel_rfl))
  t0 := Tryz.underlying0
  a0 := Tryz.isAgg0
  z0 := Tryz.sizeOf0
  v0 := Tryz.zeroValue0
  t3 := Tryz.underlying3
  a3 := Tryz.isAgg3
  z3 := Tryz.sizeOf3
  v3 := Tryz.zeroValue3
  t4 := Tryz.underlying4
  a4 := Tryz.isAgg4
  z4 := Tryz.sizeOf4
  v4 := Tryz.zeroValue4
  t9 := Tryz.underlying9
  a9 := Tryz.isAgg9
  z9 := Tryz.sizeOf9
  v9 := Tryz.zeroValue9
  t20 := Tryz.underlying20
  a20 := Tryz.isAgg20
  z20 := Tryz.sizeOf20
  v20 := Tryz.zeroValue20
  t31 := Tryz.underlying60
  a31 := Tryz.isAgg60
  z31 := Tryz.sizeOf60
  v31 := Tryz.zeroValue60
  t37 := Tryz.underlying22
  a37 := Tryz.isAgg22
  z37 := Tryz.sizeOf22
  v37 := Tryz.zeroValue22
  t70 := Tryz.underlying57
  a70 := Tryz.isAgg57
  z70 := Tryz.sizeOf57
  v70 := Tryz.zeroValue57
  t72 := Tryz.underlying59
  a72 := Tryz.isAgg59
  z72 := Tryz.sizeOf59
  v72 := Tryz.zeroValue59
  t75 := Tryz.underlying63
  a75 := Tryz.isAgg63
  z75 := Tryz.sizeOf63
  v75 := Tryz.zeroValue63
  t76 := Tryz.underlying64
  a76 := Tryz.isAgg64
  z76 := Tryz.sizeOf64
  v76 := Tryz.zeroValue64
  t127 := Tryz.underlying89
  a127 := Tryz.isAgg89
  z127 := Tryz.sizeOf89
  v127 := Tryz.zeroValue89
  t164 := Tryz.underlying112
  a164 := Tryz.isAgg112
  z164 := Tryz.sizeOf112
  v164 := Tryz.zeroValue112 }
theorem Tryz.Builder_Extra_156 : Builder.Extra Tryz.prog Tryz.lays156_ren := {
  sizeBuilder := by kernel_rfl
  liesBuilder := by kernel_rfl
  t5 := Tryz.underlying5
  a5 := Tryz.isAgg5
  z5 := Tryz.sizeOf5
  v5 := Tryz.zeroValue5
  infoByte := by kernel_rfl
  cellsByte := by kernel_rfl
  sizeByte := by kernel_rfl
  neB5 := by decide }
open Go.RowKit in
theorem Tryz.strings_Join (bk o c : Nat) (xs : List ByteArray) (sep : ByteArray) (w : World) (hcells : ∀ (j : Nat) x, xs[j]? = some x → w.cell? ⟨bk, o + j, none⟩ = some (.string x)) (hbk : bk < w.heap.size) (hN : xs.length ≤ 140737488355328) (hcap : xs.length ≤ c) (hlen : (Lib.join (xs.map (·.data.toList)) sep.data.toList).length ≤ 140737488355328) :
    Calls Tryz.prog 127 #[.slice (some ⟨bk, o, none⟩) xs.length c, .string sep] w fun e w' => e = .returned (.string ⟨(Lib.join (xs.map (·.data.toList)) sep.data.toList).toArray⟩) ∧ Below w.heap.size w w' := Any.strings_Join Tryz.lays156 Tryz.Builder_Extra_156 bk o c xs sep w hcells hbk hN hcap hlen
def Tryz.laysM171_ren : Go.Shelf.Ren := ⟨fun | 171 => 38 | 243 => 58 | 246 => 77 | 283 => 105 | 284 => 106 | 285 => 107 | 286 => 108 | 129 => 132 | 317 => 131 | 318 => 133 | 319 => 134 | 320 => 135 | 337 => 153 | 338 => 154 | n => n, fun | 3 => 3 | 9 => 9 | 2 => 2 | 4 => 4 | 171 => 141 | 0 => 0 | 53 => 142 | 37 => 22 | 5 => 5 | 173 => 145 | 212 => 161 | 51 => 162 | 20 => 20 | 213 => 163 | 46 => 157 | 232 => 204 | 233 => 205 | n => n, fun | 17 => 1 | 18 => 4 | 19 => 5 | n => n⟩
theorem Tryz.laysM171 : Go.Proofs.LaysM.n171 Tryz.prog Tryz.laysM171_ren := {
  mixed := by kernel_rfl
  f129 := Tryz.func132.trans (congrArg some (by kernel_rfl))
  f171 := Tryz.func38.trans (congrArg some (by kernel_rfl))
  f243 := Tryz.func58.trans (congrArg some (by kernel_rfl))
  f246 := Tryz.func77.trans (congrArg some (by kernel_rfl))
  f283 := Tryz.func105.trans (congrArg some (by kernel_rfl))
  f284 := Tryz.func106.trans (congrArg some (by kernel_rfl))
  f285 := Tryz.func107.trans (congrArg some (by kernel_rfl))
  f286 := Tryz.func108.trans (congrArg some (by kernel_rfl))
  f317 := Tryz.func131.trans (congrArg some (by kernel_rfl))
  f318 := Tryz.func133.trans (congrArg some (by kernel_rfl))
  f319 := Tryz.func134.trans (congrArg some (by kernel_rfl))
  f320 := Tryz.func135.trans (congrArg some (by kernel_rfl))
  f337 := Tryz.func153.trans (congrArg some (by kernel_rfl))
  f338 := Tryz.func154.trans (congrArg some (by kernel_rfl))
  t0 := Tryz.underlying0
  a0 := Tryz.isAgg0
  z0 := Tryz.sizeOf0
  v0 := Tryz.zeroValue0
  t2 := Tryz.underlying2
  a2 := Tryz.isAgg2
  z2 := Tryz.sizeOf2
  v2 := Tryz.zeroValue2
  t3 := Tryz.underlying3
  a3 := Tryz.isAgg3
  z3 := Tryz.sizeOf3
  v3 := Tryz.zeroValue3
  t4 := Tryz.underlying4
  a4 := Tryz.isAgg4
  z4 := Tryz.sizeOf4
  v4 := Tryz.zeroValue4
  t5 := Tryz.underlying5
  a5 := Tryz.isAgg5
  z5 := Tryz.sizeOf5
  v5 := Tryz.zeroValue5
  t9 := Tryz.underlying9
  a9 := Tryz.isAgg9
  z9 := Tryz.sizeOf9
  v9 := Tryz.zeroValue9
  t20 := Tryz.underlying20
  a20 := Tryz.isAgg20
  z20 := Tryz.sizeOf20
  v20 := Tryz.zeroValue20
  t37 := Tryz.underlying22
  a37 := Tryz.isAgg22
  z37 := Tryz.sizeOf22
  v37 := Tryz.zeroValue22
  t46 := Tryz.underlying157
  a46 := Tryz.isAgg157
  z46 := Tryz.sizeOf157
  v46 := Tryz.zeroValue157
  t51 := Tryz.underlying162
  a51 := Tryz.isAgg162
  z51 := Tryz.sizeOf162
  v51 := Tryz.zeroValue162
  t53 := Tryz.underlying142
  a53 := Tryz.isAgg142
  z53 := Tryz.sizeOf142
  v53 := Tryz.zeroValue142
  t171 := Tryz.underlying141
  a171 := Tryz.isAgg141
  z171 := Tryz.sizeOf141
  v171 := Tryz.zeroValue141
  t173 := Tryz.underlying145
  a173 := Tryz.isAgg145
  z173 := Tryz.sizeOf145
  v173 := Tryz.zeroValue145
  t212 := Tryz.underlying161
  a212 := Tryz.isAgg161
  z212 := Tryz.sizeOf161
  v212 := Tryz.zeroValue161
  t213 := Tryz.underlying163
  a213 := Tryz.isAgg163
  z213 := Tryz.sizeOf163
  t232 := Tryz.underlying204
  a232 := Tryz.isAgg204
  z232 := Tryz.sizeOf204
  v232 := Tryz.zeroValue204
  t233 := Tryz.underlying205
  a233 := Tryz.isAgg205
  z233 := Tryz.sizeOf205
  v233 := Tryz.zeroValue205
  g17 := by kernel_rfl
  g18 := by kernel_rfl
  g19 := by kernel_rfl
  i0 := by kernel_rfl
  i2 := by kernel_rfl
  i3 := by kernel_rfl
  i4 := by kernel_rfl
  i5 := by kernel_rfl
  i9 := by kernel_rfl
  i20 := by kernel_rfl
  i37 := by kernel_rfl
  i46 := by kernel_rfl
  i51 := by kernel_rfl
  i53 := by kernel_rfl
  i171 := by kernel_rfl
  i173 := by kernel_rfl
  i212 := by kernel_rfl
  i232 := by kernel_rfl
  i233 := by kernel_rfl
  m17 := by kernel_rfl
  m18 := by kernel_rfl
  m19 := by kernel_rfl }
open Go.RowKit Go.Sort Go.Lib in
theorem Tryz.strconv_Itoa (n : Int) (h0 : -9223372036854775808 ≤ n) (h1 : n ≤ 9223372036854775807) (w : World) (htab : Lib.TabIs Tryz.prog w "internal/strconv.uint64pow10" .u64 Lib.pow10Tab) :
    Calls Tryz.prog 38 #[.int .i64 n] w fun e w' => e = .returned (.string ⟨(Lib.itoa n).toArray⟩) ∧ ∃ k os, w' = grow (w.drewN k) os := Any.strconv_Itoa Tryz.laysM171 n h0 h1 w htab
def Tryz.lays171_ren : Go.Shelf.Ren := ⟨fun | 171 => 38 | 243 => 58 | 246 => 77 | 283 => 105 | 284 => 106 | 285 => 107 | 286 => 108 | 129 => 132 | 317 => 131 | 318 => 133 | 319 => 134 | 320 => 135 | 337 => 153 | 338 => 154 | n => n, fun | 3 => 3 | 9 => 9 | 2 => 2 | 4 => 4 | 171 => 141 | 0 => 0 | 53 => 142 | 37 => 22 | 5 => 5 | 173 => 145 | 212 => 161 | 51 => 162 | 20 => 20 | 213 => 163 | 46 => 157 | 232 => 204 | 233 => 205 | n => n, fun | 17 => 1 | 18 => 4 | 19 => 5 | n => n⟩
theorem Tryz.lays171 : Go.Proofs.Lays.n171 Tryz.prog Tryz.lays171_ren := {
  mixed := by kernel_rfl
  f129 := Tryz.func132.trans (congrArg some (by kernel_rfl))
  f171 := Tryz.func38.trans (congrArg some (by kernel_rfl))
  f243 := Tryz.func58.trans (congrArg some (by kernel_rfl))
  f246 := Tryz.func77.trans (congrArg some (by kernel_rfl))
  f283 := Tryz.func105.trans (congrArg some (by kernel_rfl))
  f284 := Tryz.func106.trans (congrArg some (by kernel_rfl))
  f285 := Tryz.func107.trans (congrArg some (by kernel_rfl))
  f286 := Tryz.func108.trans (congrArg some (by kernel_rfl))
  f317 := Tryz.func131.trans (congrArg some (by kernel_rfl))
  f318 := Tryz.func133.trans (congrArg some (by kernel_rfl))
  f319 := Tryz.func134.trans (congrArg some (by kernel_rfl))
  f320 := Tryz.func135.trans (congrArg some (by kernel_rfl))
  f337 := Tryz.func153.trans (congrArg some (by kernel_rfl))
  f338 := Tryz.func154.trans (congrArg some (by kernel_rfl))
  t0 := Tryz.underlying0
  a0 := Tryz.isAgg0
  z0 := Tryz.sizeOf0
  v0 := Tryz.zeroValue0
  t2 := Tryz.underlying2
  a2 := Tryz.isAgg2
  z2 := Tryz.sizeOf2
  v2 := Tryz.zeroValue2
  t3 := Tryz.underlying3
  a3 := Tryz.isAgg3
  z3 := Tryz.sizeOf3
  v3 := Tryz.zeroValue3
  t4 := Tryz.underlying4
  a4 := Tryz.isAgg4
  z4 := Tryz.sizeOf4
  v4 := Tryz.zeroValue4
  t5 := Tryz.underlying5
  a5 := Tryz.isAgg5
  z5 := Tryz.sizeOf5
  v5 := Tryz.zeroValue5
  t9 := Tryz.underlying9
  a9 := Tryz.isAgg9
  z9 := Tryz.sizeOf9
  v9 := Tryz.zeroValue9
  t20 := Tryz.underlying20
  a20 := Tryz.isAgg20
  z20 := Tryz.sizeOf20
  v20 := Tryz.zeroValue20
  t37 := Tryz.underlying22
  a37 := Tryz.isAgg22
  z37 := Tryz.sizeOf22
  v37 := Tryz.zeroValue22
  t46 := Tryz.underlying157
  a46 := Tryz.isAgg157
  z46 := Tryz.sizeOf157
  v46 := Tryz.zeroValue157
  t51 := Tryz.underlying162
  a51 := Tryz.isAgg162
  z51 := Tryz.sizeOf162
  v51 := Tryz.zeroValue162
  t53 := Tryz.underlying142
  a53 := Tryz.isAgg142
  z53 := Tryz.sizeOf142
  v53 := Tryz.zeroValue142
  t171 := Tryz.underlying141
  a171 := Tryz.isAgg141
  z171 := Tryz.sizeOf141
  v171 := Tryz.zeroValue141
  t173 := Tryz.underlying145
  a173 := Tryz.isAgg145
  z173 := Tryz.sizeOf145
  v173 := Tryz.zeroValue145
  t212 := Tryz.underlying161
  a212 := Tryz.isAgg161
  z212 := Tryz.sizeOf161
  v212 := Tryz.zeroValue161
  t213 := Tryz.underlying163
  a213 := Tryz.isAgg163
  z213 := Tryz.sizeOf163
  t232 := Tryz.underlying204
  a232 := Tryz.isAgg204
  z232 := Tryz.sizeOf204
  v232 := Tryz.zeroValue204
  t233 := Tryz.underlying205
  a233 := Tryz.isAgg205
  z233 := Tryz.sizeOf205
  v233 := Tryz.zeroValue205
  g17 := by kernel_rfl
  g18 := by kernel_rfl
  g19 := by kernel_rfl }
open Go.RowKit Go.Sort Go.Lib in
theorem Tryz.strconv_Itoa_small (i : Nat) (hi : i < 100) (w : World) :
    Calls Tryz.prog 38 #[.int .i64 i] w fun e w' => e = .returned (.string ⟨(Lib.decDigits i).toArray⟩) ∧ w' = w := Any.strconv_Itoa_small Tryz.lays171 i hi w
def Tryz.lays144_ren : Go.Shelf.Ren := ⟨fun | 144 => 181 | 143 => 72 | 219 => 95 | 217 => 116 | 225 => 117 | 224 => 118 | 267 => 119 | 266 => 139 | 314 => 140 | n => n, fun | 9 => 9 | 4 => 4 | 3 => 3 | 5 => 5 | 46 => 157 | 146 => 172 | 51 => 162 | n => n, fun | 1 => 0 | n => n⟩
theorem Tryz.lays144 : Go.Proofs.Lays.n144 Tryz.prog Tryz.lays144_ren := {
  mixed := by kernel_rfl
  f143 := Tryz.func72.trans (congrArg some (by kernel_rfl))
  f144 := Tryz.func181.trans (congrArg some (by kernel_rfl))
  f217 := Tryz.func116.trans (congrArg some (by kernel_rfl))
  f219 := Tryz.func95.trans (congrArg some (by kernel_rfl))
  f224 := Tryz.func118.trans (congrArg some (by kernel_rfl))
  f225 := Tryz.func117.trans (congrArg some (by kernel_rfl))
  f266 := Tryz.func139.trans (congrArg some (by kernel_rfl))
  f267 := Tryz.func119.trans (congrArg some (by kernel_rfl))
  f314 := Tryz.func140.trans (congrArg some (by kernel_rfl))
  t3 := Tryz.underlying3
  a3 := Tryz.isAgg3
  z3 := Tryz.sizeOf3
  v3 := Tryz.zeroValue3
  t4 := Tryz.underlying4
  a4 := Tryz.isAgg4
  z4 := Tryz.sizeOf4
  v4 := Tryz.zeroValue4
  t5 := Tryz.underlying5
  a5 := Tryz.isAgg5
  z5 := Tryz.sizeOf5
  v5 := Tryz.zeroValue5
  t9 := Tryz.underlying9
  a9 := Tryz.isAgg9
  z9 := Tryz.sizeOf9
  v9 := Tryz.zeroValue9
  t46 := Tryz.underlying157
  a46 := Tryz.isAgg157
  z46 := Tryz.sizeOf157
  v46 := Tryz.zeroValue157
  t51 := Tryz.underlying162
  a51 := Tryz.isAgg162
  z51 := Tryz.sizeOf162
  v51 := Tryz.zeroValue162
  t146 := Tryz.underlying172
  a146 := Tryz.isAgg172
  z146 := Tryz.sizeOf172
  v146 := Tryz.zeroValue172
  g1 := by kernel_rfl }
open Go.RowKit Go.Lib in
theorem Tryz.strings_Contains_one (s : ByteArray) (c : UInt8) (w : World) :
    Calls Tryz.prog 181 #[.string s, .string ⟨#[c]⟩] w fun e w' => e = .returned (.bool (decide (0 ≤ Lib.indexByte s.data.toList c))) ∧ w' = w := Any.strings_Contains_one Tryz.lays144 s c w
def Tryz.lays146_ren : Go.Shelf.Ren := ⟨fun | 146 => 35 | 221 => 54 | 268 => 70 | 138 => 71 | 143 => 72 | 195 => 92 | 197 => 93 | 218 => 94 | 219 => 95 | 260 => 115 | 217 => 116 | 225 => 117 | 224 => 118 | 267 => 119 | 266 => 139 | 314 => 140 | n => n, fun | 9 => 9 | 31 => 60 | 3 => 3 | 4 => 4 | 0 => 0 | 105 => 139 | 21 => 21 | 5 => 5 | 46 => 157 | 119 => 168 | 139 => 171 | 138 => 170 | 146 => 172 | 51 => 162 | n => n, fun | 1 => 0 | 3 => 2 | 4 => 3 | n => n⟩
theorem Tryz.lays146 : Go.Proofs.Lays.n146 Tryz.prog Tryz.lays146_ren := {
  mixed := by kernel_rfl
  f138 := Tryz.func71.trans (congrArg some (by kernel_rfl))
  f143 := Tryz.func72.trans (congrArg some (by kernel_rfl))
  f146 := Tryz.func35.trans (congrArg some (by kernel_rfl))
  f195 := Tryz.func92.trans (congrArg some (by kernel_rfl))
  f197 := Tryz.func93.trans (congrArg some (by kernel_rfl))
  f217 := Tryz.func116.trans (congrArg some (by kernel_rfl))
  f218 := Tryz.func94.trans (congrArg some (by kernel_rfl))
  f219 := Tryz.func95.trans (congrArg some (by kernel_rfl))
  f221 := Tryz.func54.trans (congrArg some (by kernel_rfl))
  f224 := Tryz.func118.trans (congrArg some (by kernel_rfl))
  f225 := Tryz.func117.trans (congrArg some (by kernel_rfl))
  f260 := Tryz.func115.trans (congrArg some (by kernel_rfl))
  f266 := Tryz.func139.trans (congrArg some (by kernel_rfl))
  f267 := Tryz.func119.trans (congrArg some (by kernel_rfl))
  f268 := Tryz.func70.trans (congrArg some (by kernel_rfl))
  f314 := Tryz.func140.trans (congrArg some (by kernel_rfl))
  t0 := Tryz.underlying0
  a0 := Tryz.isAgg0
  z0 := Tryz.sizeOf0
  v0 := Tryz.zeroValue0
  t3 := Tryz.underlying3
  a3 := Tryz.isAgg3
  z3 := Tryz.sizeOf3
  v3 := Tryz.zeroValue3
  t4 := Tryz.underlying4
  a4 := Tryz.isAgg4
  z4 := Tryz.sizeOf4
  v4 := Tryz.zeroValue4
  t5 := Tryz.underlying5
  a5 := Tryz.isAgg5
  z5 := Tryz.sizeOf5
  v5 := Tryz.zeroValue5
  t9 := Tryz.underlying9
  a9 := Tryz.isAgg9
  z9 := Tryz.sizeOf9
  v9 := Tryz.zeroValue9
  t21 := Tryz.underlying21
  a21 := Tryz.isAgg21
  z21 := Tryz.sizeOf21
  v21 := Tryz.zeroValue21
  t31 := Tryz.underlying60
  a31 := Tryz.isAgg60
  z31 := Tryz.sizeOf60
  v31 := Tryz.zeroValue60
  t46 := Tryz.underlying157
  a46 := Tryz.isAgg157
  z46 := Tryz.sizeOf157
  v46 := Tryz.zeroValue157
  t51 := Tryz.underlying162
  a51 := Tryz.isAgg162
  z51 := Tryz.sizeOf162
  v51 := Tryz.zeroValue162
  t105 := Tryz.underlying139
  a105 := Tryz.isAgg139
  z105 := Tryz.sizeOf139
  v105 := Tryz.zeroValue139
  t119 := Tryz.underlying168
  a119 := Tryz.isAgg168
  z119 := Tryz.sizeOf168
  t138 := Tryz.underlying170
  a138 := Tryz.isAgg170
  z138 := Tryz.sizeOf170
  v138 := Tryz.zeroValue170
  t139 := Tryz.underlying171
  a139 := Tryz.isAgg171
  z139 := Tryz.sizeOf171
  v139 := Tryz.zeroValue171
  t146 := Tryz.underlying172
  a146 := Tryz.isAgg172
  z146 := Tryz.sizeOf172
  v146 := Tryz.zeroValue172
  g1 := by kernel_rfl
  g3 := by kernel_rfl
  g4 := by kernel_rfl }
open Go.RowKit Go.Lib in
theorem Tryz.strings_Split (s sep : ByteArray) (m : Int) (w : World) (hs : s.size < 4294967281) (hm : w.cell? ⟨0, 0, none⟩ = some (.int .i64 m)) (h1 : 1 ≤ sep.size) :
    Calls Tryz.prog 35 #[.string s, .string sep] w fun e w' =>
     e = .returned (.slice (some ⟨w.heap.size, 0, none⟩) (Lib.countB s sep + 1) (Lib.countB s sep + 1)) ∧ w' = w.alloc (.cells ((Lib.splitB sep 0 (Lib.countB s sep) s).map Value.string).toArray 9) := Any.strings_Split Tryz.lays146 (by kernel_rfl) s sep m w hs hm h1
end Go.Proofs

