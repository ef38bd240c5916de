/-
  Registers in memory: linked lists of notes; put.
-/
import Derived.Test.YtokddeoliieofaaSb
import Derived.Test.YtokddeoliieofaaRx
namespace Go.Proofs.Ytokddeoliieofaa
open Go.RowKit

/-- the entry with a number, or nil -/
def pE (es : List Nat) (i : Nat) : Value := match es[i]? with | some b => .pointer (some ⟨b, 0, none⟩) | none => .pointer none
theorem pE_some {es : List Nat} {i : Nat} (h : i < es.length) : pE es i = .pointer (some ⟨es.getD i 0, 0, none⟩) := by
  unfold pE
  rw [List.getD_eq_getElem?_getD, List.getElem?_eq_getElem h]
  rfl
theorem pE_none {es : List Nat} {i : Nat} (h : es.length ≤ i) : pE es i = .pointer none := by
  unfold pE
  rw [List.getElem?_eq_none h]
theorem pE_old {es : List Nat} {i b : Nat} (h : i < es.length) : pE (es ++ [b]) i = pE es i := by
  unfold pE
  rw [List.getElem?_append_left h]
theorem pE_new {es : List Nat} {b : Nat} : pE (es ++ [b]) es.length = .pointer (some ⟨b, 0, none⟩) := by
  unfold pE
  simp
theorem gD_old {es : List Nat} {i b : Nat} (h : i < es.length) : (es ++ [b]).getD i 0 = es.getD i 0 := by
  rw [List.getD_eq_getElem?_getD, List.getD_eq_getElem?_getD, List.getElem?_append_left h]
theorem gD_new {es : List Nat} {b : Nat} : (es ++ [b]).getD es.length 0 = b := by
  rw [List.getD_eq_getElem?_getD]
  simp
/-- a note of a list -/
def nM (ns : List (Int × ByteArray)) (i : Nat) : Int := ((ns[i]?).map (·.1)).getD 0
def nL (ns : List (Int × ByteArray)) (i : Nat) : ByteArray := ((ns[i]?).map (·.2)).getD ⟨#[]⟩
theorem nM_at {ns : List (Int × ByteArray)} {i : Nat} (h : i < ns.length) : nM ns i = (ns[i]).1 := by unfold nM; rw [List.getElem?_eq_getElem h]; rfl
theorem nL_at {ns : List (Int × ByteArray)} {i : Nat} (h : i < ns.length) : nL ns i = (ns[i]).2 := by unfold nL; rw [List.getElem?_eq_getElem h]; rfl
theorem nM_old {ns : List (Int × ByteArray)} {z : Int × ByteArray} {i : Nat} (h : i < ns.length) : nM (ns ++ [z]) i = nM ns i ∧ nL (ns ++ [z]) i = nL ns i := by
  unfold nM nL
  rw [List.getElem?_append_left h]
  exact ⟨rfl, rfl⟩
theorem nM_new {ns : List (Int × ByteArray)} {z : Int × ByteArray} : nM (ns ++ [z]) ns.length = z.1 ∧ nL (ns ++ [z]) ns.length = z.2 := by
  unfold nM nL
  simp
/-- block r is a register of the entries es that hold the notes ns -/
structure RgC (w : World) (r : Nat) (es : List Nat) (ns : List (Int × ByteArray)) : Prop where
  box : Bx w r 92 #[pE es 0, pE es (es.length - 1), .int .i64 es.length]
  len : es.length = ns.length
  ent : ∀ i, i < es.length → Bx w (es.getD i 0) 100 #[.int .i64 (nM ns i), .string (nL ns i), pE es (i + 1)]
  dst : ∀ i, i < es.length → es.getD i 0 ≠ r
  inj : ∀ i j, i < es.length → j < es.length → es.getD i 0 = es.getD j 0 → i = j
theorem RgC.below {w w' : World} {r B : Nat} {es : List Nat} {ns : List (Int × ByteArray)} (h : RgC w r es ns) (hb : Below B w w') (hB : w.heap.size ≤ B) : RgC w' r es ns :=
  ⟨h.box.below hb (Nat.lt_of_lt_of_le h.box.lt hB), h.len, fun i hi => (h.ent i hi).below hb (Nat.lt_of_lt_of_le (h.ent i hi).lt hB), h.dst, h.inj⟩
theorem RgC.alloc {w : World} {r : Nat} {es : List Nat} {ns : List (Int × ByteArray)} (h : RgC w r es ns) (o : Obj) : RgC (w.alloc o) r es ns := h.below (below_all _ _) (Nat.le_refl _)
theorem RgC.drew {w : World} {r : Nat} {es : List Nat} {ns : List (Int × ByteArray)} (h : RgC w r es ns) : RgC w.drew r es ns := h.below (Below.refl _ w).drew (Nat.le_refl _)
/-- a register without notes -/
theorem RgC.nil {w : World} {r : Nat} (h : Bx w r 92 #[.pointer none, .pointer none, .int .i64 0]) : RgC w r [] [] :=
  ⟨h, rfl, fun i hi => by simp at hi, fun i hi => by simp at hi, fun i j hi => by simp at hi⟩
/-- the number of an entry, for the measure of a loop -/
def ixE (es : List Nat) : Value → Nat
  | .pointer (some a) => ((List.range es.length).find? (fun i => decide (es.getD i 0 = a.block))).getD es.length
  | _ => es.length
theorem RgC.ix {w : World} {r : Nat} {es : List Nat} {ns : List (Int × ByteArray)} (h : RgC w r es ns) {i : Nat} (hi : i ≤ es.length) : ixE es (pE es i) = i := by
  rcases Nat.lt_or_ge i es.length with h1 | h1
  · rw [pE_some h1]
    show ((List.range es.length).find? (fun j => decide (es.getD j 0 = es.getD i 0))).getD es.length = i
    cases e : (List.range es.length).find? (fun j => decide (es.getD j 0 = es.getD i 0)) with
    | none =>
      have h2 := List.find?_eq_none.1 e i (List.mem_range.2 h1)
      simp at h2
    | some j =>
      have h2 := List.find?_some e
      have h3 := List.mem_range.1 (List.mem_of_find?_eq_some e)
      exact h.inj j i h3 h1 (by simpa using h2)
  · obtain rfl : i = es.length := by omega
    rw [pE_none (Nat.le_refl _)]
    rfl
/-- all blocks of a register lie at a bound or above -/
def RgB (B r : Nat) (es : List Nat) : Prop := B ≤ r ∧ ∀ i, i < es.length → B ≤ es.getD i 0
theorem RgB.push {B r b : Nat} {es : List Nat} (h : RgB B r es) (hb : B ≤ b) : RgB B r (es ++ [b]) := ⟨h.1, fun i hi => by
  rcases Nat.lt_or_ge i es.length with h1 | h1
  · rw [gD_old h1]; exact h.2 i h1
  · simp at hi
    obtain rfl : i = es.length := by omega
    rw [gD_new]; exact hb⟩
theorem RgB.mono {B D r : Nat} {es : List Nat} (h : RgB B r es) (hD : D ≤ B) : RgB D r es := ⟨Nat.le_trans hD h.1, fun i hi => Nat.le_trans hD (h.2 i hi)⟩
theorem bx3s {w : World} {b : Nat} {t : TypeId} {v0 v1 v2 : Value} (h : Bx w b t #[v0, v1, v2]) (u0 u1 u2 : Value) : Bx (((w.setCell ⟨b, 0, none⟩ u0).setCell ⟨b, 1, none⟩ u1).setCell ⟨b, 2, none⟩ u2) b t #[u0, u1, u2] := by
  have := ((h.set 0 u0).set 1 u1).set 2 u2
  simpa using this
/-- the first note -/
theorem RgC.put0 {w : World} {r : Nat} (h : RgC w r [] []) (z : Int × ByteArray) (A : Obj) (b : Nat) (hb : b = w.heap.size + 1) :
    RgC (((((w.setCell ⟨r, 0, none⟩ (.pointer (some ⟨b, 0, none⟩))).setCell ⟨r, 1, none⟩ (.pointer (some ⟨b, 0, none⟩))).setCell ⟨r, 2, none⟩ (.int .i64 1)).alloc A).alloc (.cells #[.int .i64 z.1, .string z.2, .pointer none] 100)) r [b] [z] := by
  have hl := h.box.lt
  refine ⟨?_, rfl, fun i hi => ?_, fun i hi => ?_, fun i j hi hj _ => ?_⟩
  · exact ((bx3s h.box _ _ _).alloc _).alloc _
  · obtain rfl : i = 0 := by simpa using hi
    exact Bx.newAt (by simp [World.setCell]; omega)
  · obtain rfl : i = 0 := by simpa using hi
    show b ≠ r
    omega
  · simp at hi hj
    omega
/-- one note more -/
theorem RgC.put1 {w : World} {r : Nat} {es : List Nat} {ns : List (Int × ByteArray)} (h : RgC w r es ns) (h0 : 0 < es.length) (z : Int × ByteArray) (A : Obj) (b : Nat) (hb : b = w.heap.size + 1) :
    RgC (((((w.setCell ⟨es.getD (es.length - 1) 0, 2, none⟩ (.pointer (some ⟨b, 0, none⟩))).setCell ⟨r, 1, none⟩ (.pointer (some ⟨b, 0, none⟩))).setCell ⟨r, 2, none⟩ (.int .i64 ((es.length : Int) + 1))).alloc A).alloc (.cells #[.int .i64 z.1, .string z.2, .pointer none] 100)) r (es ++ [b]) (ns ++ [z]) := by
  have hl := h.box.lt
  have hlen := h.len
  have hne := h.dst (es.length - 1) (by omega)
  refine ⟨?_, by simp [hlen], fun i hi => ?_, fun i hi => ?_, fun i j hi hj e => ?_⟩
  · have h1 := ((h.box.setOther (a := ⟨es.getD (es.length - 1) 0, 2, none⟩) (fun e => hne e.symm) (.pointer (some ⟨b, 0, none⟩))).set 1 (.pointer (some ⟨b, 0, none⟩))).set 2 (.int .i64 ((es.length : Int) + 1))
    have h2 := (h1.alloc A).alloc (.cells #[.int .i64 z.1, .string z.2, .pointer none] 100)
    rw [show (es ++ [b]).length - 1 = es.length by simp, pE_new, pE_old h0]
    simpa using h2
  · simp at hi
    rcases Nat.lt_or_ge i es.length with h1 | h1
    · rw [gD_old h1, (nM_old (z := z) (show i < ns.length by omega)).1, (nM_old (z := z) (show i < ns.length by omega)).2]
      have he := h.ent i h1
      by_cases e : i = es.length - 1
      · subst e
        rw [show es.length - 1 + 1 = es.length by omega, pE_new]
        have h3 := ((he.set 2 (.pointer (some ⟨b, 0, none⟩))).setOther (a := ⟨r, 1, none⟩) hne (.pointer (some ⟨b, 0, none⟩))).setOther (a := ⟨r, 2, none⟩) hne (.int .i64 ((es.length : Int) + 1))
        have h4 := (h3.alloc A).alloc (.cells #[.int .i64 z.1, .string z.2, .pointer none] 100)
        simpa using h4
      · rw [pE_old (show i + 1 < es.length by omega)]
        have hn2 := h.dst i h1
        have hn3 : es.getD i 0 ≠ es.getD (es.length - 1) 0 := fun q => e (h.inj i (es.length - 1) h1 (by omega) q)
        exact ((((he.setOther (a := ⟨es.getD (es.length - 1) 0, 2, none⟩) hn3 _).setOther (a := ⟨r, 1, none⟩) hn2 _).setOther (a := ⟨r, 2, none⟩) hn2 _).alloc _).alloc _
    · obtain rfl : i = es.length := by omega
      rw [gD_new, hlen, nM_new.1, nM_new.2, pE_none (by simp [hlen])]
      exact Bx.newAt (by simp [World.setCell]; omega)
  · simp at hi
    rcases Nat.lt_or_ge i es.length with h1 | h1
    · rw [gD_old h1]; exact h.dst i h1
    · obtain rfl : i = es.length := by omega
      rw [gD_new]; omega
  · simp at hi hj
    have hlt : ∀ q, q < es.length → es.getD q 0 < b := fun q hq => by have := (h.ent q hq).lt; omega
    rcases Nat.lt_or_ge i es.length with h1 | h1
    · rcases Nat.lt_or_ge j es.length with h2 | h2
      · rw [gD_old h1, gD_old h2] at e; exact h.inj i j h1 h2 e
      · obtain rfl : j = es.length := by omega
        rw [gD_old h1, gD_new] at e
        have := hlt i h1
        omega
    · obtain rfl : i = es.length := by omega
      rcases Nat.lt_or_ge j es.length with h2 | h2
      · rw [gD_old h2, gD_new] at e
        have := hlt j h2
        omega
      · omega
set_option linter.unusedSimpArgs false in
set_option maxHeartbeats 1000000 in
theorem put_any (B r : Nat) (es : List Nat) (ns : List (Int × ByteArray)) (z : Int × ByteArray) (w : World) (h : RgC w r es ns) (hn : ns.length ≤ 1000000) (hB : RgB B r es) (hBw : B ≤ w.heap.size) :
    Calls Try.prog 83 #[.pointer (some ⟨r, 0, none⟩), .agg #[.int .i64 z.1, .string z.2]] w fun e w' => e = .returned (.tuple #[]) ∧ (∃ b, w.heap.size ≤ b ∧ RgC w' r (es ++ [b]) (ns ++ [z])) ∧ Below B w w' := by
  obtain ⟨s, l⟩ := z
  have hlen := h.len
  have hrl := h.box.lt
  have hrc := h.box.cell
  have hrf := h.box.free
  have HR := Lib.hid h
  have HLEN := Lib.hid hlen
  rcases Nat.eq_zero_or_pos es.length with h0 | h0
  · obtain rfl : es = [] := List.length_eq_zero_iff.1 h0
    obtain rfl : ns = [] := List.length_eq_zero_iff.1 (by rw [← hlen]; rfl)
    clear h0 hlen h
    have hrc' : ∀ o, w.cell? ⟨r, o, none⟩ = (#[.pointer none, .pointer none, .int .i64 0] : Array Value)[o]? := hrc
    clear hrc
    go_enter Try.func83, Try.ntmps83
    go_wp2_with fail
    go_end0
    exact ⟨rfl, ⟨w.heap.size + 1, by omega, HR.out.put0 (s, l) _ _ rfl⟩, (((((Below.refl B w).setCell (p := ⟨r, 0, none⟩) hB.1 _).setCell (p := ⟨r, 1, none⟩) hB.1 _).setCell (p := ⟨r, 2, none⟩) hB.1 _).alloc (by simp; omega) _).alloc (by simp; omega) _⟩
  · have he := h.ent (es.length - 1) (by omega)
    have hec := he.cell
    have hef := he.free
    have hel := he.lt
    have hne := h.dst (es.length - 1) (by omega)
    have hBe := hB.2 (es.length - 1) (by omega)
    have HP0 : Hid (pE es (es.length - 1) = .pointer (some ⟨es.getD (es.length - 1) 0, 0, none⟩)) := pE_some (by omega)
    rw [HP0.out] at hrc
    have HPUT := Lib.hid (h.put1 h0 (s, l) (.cells #[.int .i64 s, .string l] 61) (w.heap.size + 1) rfl)
    have hne2 : r ≠ es.getD (es.length - 1) 0 := fun e => hne e.symm
    clear he h hlen
    generalize es.getD (es.length - 1) 0 = eb at *
    have hn' : es.length ≤ 1000000 := by rw [HLEN.out]; exact hn
    have hp1 : pE es (es.length - 1 + 1) = .pointer none := pE_none (by omega)
    generalize pE es 0 = p0 at *
    generalize pE es (es.length - 1 + 1) = p1 at *
    subst hp1
    go_enter Try.func83, Try.ntmps83
    go_wp2_with fail
    go_end0
    exact ⟨rfl, ⟨w.heap.size + 1, by omega, HPUT.out⟩, (((((Below.refl B w).setCell (p := ⟨eb, 2, none⟩) hBe _).setCell (p := ⟨r, 1, none⟩) hB.1 _).setCell (p := ⟨r, 2, none⟩) hB.1 _).alloc (by simp; omega) _).alloc (by simp; omega) _⟩
end Go.Proofs.Ytokddeoliieofaa
