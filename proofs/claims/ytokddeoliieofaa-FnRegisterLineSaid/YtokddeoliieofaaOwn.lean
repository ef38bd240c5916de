/-
  Slices that a call has made, told by what their cells hold as a function of the place; append onto them; what stays as it was. Over any program.
-/
import Derived.WalkKit
import Derived.WalkSpells
import Derived.WalkLawsBesides
import Derived.Lib.Hide
import Derived.BigQuiet
import Derived.Deep.QuietTactic
import Derived.Deep.RegionHeld3
import Derived.Deep.DeepFit
namespace Go.Proofs.Ytokddeoliieofaa
open Go.RowKit

/-- block g is a row of the call's own with room for cap elements of s cells; the first n hold f -/
def Own (w : World) (g cap n s : Nat) (t : TypeId) (f : Nat → Value) : Prop :=
  n ≤ cap ∧ cap ≤ maxLen ∧ ∃ cur, w.heap[g]? = some (.cells cur t (0, 0)) ∧ cur.size = cap * s ∧ ∀ i, i < n * s → cur[i]? = some (f i)

theorem Own.lt {w : World} {g cap n s : Nat} {t : TypeId} {f : Nat → Value} (h : Own w g cap n s t f) : g < w.heap.size := by
  obtain ⟨_, _, cur, hg, _⟩ := h
  exact (Array.getElem?_eq_some_iff.1 hg).1
theorem Own.cell {w : World} {g cap n s : Nat} {t : TypeId} {f : Nat → Value} (h : Own w g cap n s t f) {i : Nat} (hi : i < n * s) : w.cell? ⟨g, i, none⟩ = some (f i) := by
  obtain ⟨_, _, cur, hg, _, hc⟩ := h
  simp [World.cell?, hg, hc i hi]
theorem Own.cell1 {w : World} {g cap n : Nat} {t : TypeId} {f : Nat → Value} (h : Own w g cap n 1 t f) {i : Nat} (hi : i < n) : w.cell? ⟨g, i, none⟩ = some (f i) := h.cell (by omega)
theorem Own.free {w : World} {g cap n s : Nat} {t : TypeId} {f : Nat → Value} (h : Own w g cap n s t f) (i : Nat) : w.frozen? ⟨g, i, none⟩ = false := by
  obtain ⟨_, _, cur, hg, _⟩ := h
  simp [World.frozen?, hg]
theorem Own.of_block {w w' : World} {g cap n s : Nat} {t : TypeId} {f : Nat → Value} (h : Own w g cap n s t f) (e : w'.heap[g]? = w.heap[g]?) : Own w' g cap n s t f := by
  obtain ⟨h1, h2, cur, hg, h3, h4⟩ := h
  exact ⟨h1, h2, cur, e.trans hg, h3, h4⟩
theorem Own.congr {w : World} {g cap n s : Nat} {t : TypeId} {f f' : Nat → Value} (h : Own w g cap n s t f) (e : ∀ i, i < n * s → f i = f' i) : Own w g cap n s t f' := by
  obtain ⟨h1, h2, cur, hg, h3, h4⟩ := h
  exact ⟨h1, h2, cur, hg, h3, fun i hi => by rw [h4 i hi, e i hi]⟩
theorem Own.alloc {w : World} {g cap n s : Nat} {t : TypeId} {f : Nat → Value} (h : Own w g cap n s t f) (o : Obj) : Own (w.alloc o) g cap n s t f :=
  h.of_block (Below.heap_alloc _ _ _ h.lt)
theorem Own.drew {w : World} {g cap n s : Nat} {t : TypeId} {f : Nat → Value} (h : Own w g cap n s t f) : Own w.drew g cap n s t f := h
theorem Own.drewN {w : World} {g cap n s : Nat} {t : TypeId} {f : Nat → Value} (h : Own w g cap n s t f) (q : Nat) : Own (w.drewN q) g cap n s t f := h
theorem Own.below {w w' : World} {g cap n s B : Nat} {t : TypeId} {f : Nat → Value} (h : Own w g cap n s t f) (hb : Below B w w') (hg : g < B) : Own w' g cap n s t f := h.of_block (hb.block g hg)
theorem Own.kept {w w' : World} {g cap n s : Nat} {t : TypeId} {f : Nat → Value} (h : Own w g cap n s t f) {row : Option Nat} (hb : w.grownBy w' row) (hg : some g ≠ row) : Own w' g cap n s t f := h.of_block (hb.block g h.lt hg)
theorem Own.setOther {w : World} {g cap n s : Nat} {t : TypeId} {f : Nat → Value} (h : Own w g cap n s t f) {a : Addr} (ha : g ≠ a.block) (v : Value) : Own (w.setCell a v) g cap n s t f :=
  h.of_block (Below.heap_setCell _ _ _ _ ha)
theorem Own.set {w : World} {g cap n s : Nat} {t : TypeId} {f : Nat → Value} (h : Own w g cap n s t f) (i : Nat) (v : Value) : Own (w.setCell ⟨g, i, none⟩ v) g cap n s t (fun j => if j = i then v else f j) := by
  obtain ⟨h1, h2, c, hb, hn, hc⟩ := h
  refine ⟨h1, h2, c.setIfInBounds i v, ?_, by simpa using hn, fun j hj => ?_⟩
  · simp [World.setCell, Array.getElem?_modify, hb]
  · rw [Array.getElem?_setIfInBounds]
    have hj' : j < c.size := (Array.getElem?_eq_some_iff.1 (hc j hj)).1
    by_cases e : j = i
    · subst e
      simp [hj']
    · rw [if_neg (fun h => e h.symm)]
      show c[j]? = some (if j = i then v else f j)
      rw [if_neg e]
      exact hc j hj
/-- fewer elements of the same row -/
theorem Own.less {w : World} {g cap n s m : Nat} {t : TypeId} {f : Nat → Value} (h : Own w g cap n s t f) (hm : m ≤ n) : Own w g cap m s t f := by
  obtain ⟨h1, h2, cur, hg, h3, h4⟩ := h
  exact ⟨by omega, h2, cur, hg, h3, fun i hi => h4 i (Nat.lt_of_lt_of_le hi (Nat.mul_le_mul_right _ hm))⟩
/-- an empty row with room -/
theorem own_made (w : World) (z : Value) (cap s : Nat) (t : TypeId) (f : Nat → Value) (hc : cap ≤ maxLen) : Own (w.alloc (.cells (madeCells #[z] (cap * s)) t)) w.heap.size cap 0 s t f :=
  ⟨Nat.zero_le _, hc, _, heap_alloc_new _ _, size_madeCells _ _, fun i hi => by omega⟩
theorem own_made1 (w : World) (z : Value) (cap : Nat) (t : TypeId) (f : Nat → Value) (hc : cap ≤ maxLen) : Own (w.alloc (.cells (madeCells #[z] cap) t)) w.heap.size cap 0 1 t f := by
  have := own_made w z cap 1 t f hc
  rwa [Nat.mul_one] at this
theorem own_at (w : World) (z : Value) (cap : Nat) (t : TypeId) (f : Nat → Value) (hc : cap ≤ maxLen) {g : Nat} (hg : g = w.heap.size) : Own (w.alloc (.cells (madeCells #[z] cap) t)) g cap 0 1 t f := by
  subst hg; exact own_made1 w z cap t f hc
/-- a row full of zero values -/
theorem own_full1 (w : World) (z : Value) (n : Nat) (t : TypeId) (hc : n ≤ maxLen) : Own (w.alloc (.cells (madeCells #[z] n) t)) w.heap.size n n 1 t (fun _ => z) :=
  ⟨Nat.le_refl _, hc, _, heap_alloc_new _ _, by rw [size_madeCells]; simp, fun i hi => by
    rw [Nat.mul_one] at hi
    simp [madeCells, hi, Nat.mod_one]⟩
theorem own_lit (w : World) (l : List Value) (n s : Nat) (t : TypeId) (f : Nat → Value) (hl : l.length = n * s) (hc : n ≤ maxLen) (hf : ∀ i, i < n * s → l[i]? = some (f i)) : Own (w.alloc (.cells l.toArray t)) w.heap.size n n s t f :=
  ⟨Nat.le_refl _, hc, _, heap_alloc_new _ _, by simpa using hl, fun i hi => by simpa using hf i hi⟩
theorem own_empty (w : World) (s : Nat) (t : TypeId) (f : Nat → Value) : Own (w.alloc (.cells #[] t)) w.heap.size 0 0 s t f :=
  ⟨Nat.le_refl _, Nat.zero_le _, _, heap_alloc_new _ _, by simp, fun i hi => by omega⟩

theorem grownBy_trans {a b c : World} {row : Option Nat} (h : a.grownBy b row) (k : b.grownBy c row) : a.grownBy c row :=
  ⟨k.os.trans h.os, k.tape.trans h.tape, k.output.trans h.output, Nat.le_trans h.size k.size, fun i hi hr => (k.block i (Nat.lt_of_lt_of_le hi h.size) hr).trans (h.block i hi hr)⟩
theorem grownBy_drewN (w : World) (q : Nat) (row : Option Nat) : w.grownBy (w.drewN q) row := ⟨rfl, rfl, rfl, Nat.le_refl _, fun _ _ _ => rfl⟩
theorem grownBy_below {w w' : World} (h : Below w.heap.size w w') (row : Option Nat) : w.grownBy w' row := ⟨h.os, h.tape, h.output, h.size, fun k hk _ => h.block k hk⟩
theorem grownBy_setCell (w : World) (b o : Nat) (v : Value) : w.grownBy (w.setCell ⟨b, o, none⟩ v) (some b) := ⟨rfl, rfl, rfl, by simp [World.setCell], fun k _ hr => Below.heap_setCell _ _ _ _ (fun e => hr (by rw [e]))⟩
theorem below_of_grown {B : Nat} {w w' : World} {g : Nat} (h : w.grownBy w' (some g)) (hB : B ≤ g) (hw : B ≤ w.heap.size) : Below B w w' :=
  ⟨h.os, h.tape, h.output, h.size, fun k hk => h.block k (by omega) (fun e => by simp at e; omega)⟩

/-- what is known of a slice type t with elements e of s cells and so many bytes -/
structure Elem (P : Program) (t e : TypeId) (z : Value) (s bytes : Nat) : Prop where
  ht : P.underlying t = some (.slice e)
  info : (P.info? e).map (fun i => (i.zero, i.size, i.bytes)) = some (some z, s, bytes)
  zs : z.cells.size = s
  pos : 0 < s

theorem addr_add (b o j : Nat) : (⟨b, o, none⟩ : Addr).add j = ⟨b, o + j, none⟩ := by unfold Addr.add; split <;> simp_all

/-- append of m elements whose cells lie at ad onto an own row: f tells the whole -/
theorem run_app {P : Program} (w : World) {t e : TypeId} {z : Value} {s bytes : Nat} (he : Elem P t e z s bytes) (ty : TypeId) {g cap n : Nat} {f : Nat → Value} (hown : Own w g cap n s e f)
    (ad : Addr) (m c : Nat) (hnew : ∀ j, j < m * s → w.cell? (ad.add j) = some (f (n * s + j))) (h1 : ∀ j, j < m * s → (f (n * s + j)).oneCell' = true)
    (h63 : n + m ≤ maxLen) (hbytes : (n + m) * bytes ≤ 140737488355328) :
    ∃ g' cap' w', (Builtin.append_ #[t, t] ty #[.slice (some ⟨g, 0, none⟩) n cap, .slice (some ad) m c]).run P w = .ok (.slice (some ⟨g', 0, none⟩) (n + m) cap') w' ∧
      Own w' g' cap' (n + m) s e f ∧ w.grownBy w' (some g) ∧ ((g' = g ∧ cap' = cap) ∨ w.heap.size ≤ g') := by
  obtain ⟨i, hi, hz, hsz, hby⟩ := info_parts he.info
  obtain ⟨hnc, hcm, cur, hg, hcs, hcur⟩ := hown
  subst hsz
  subst hby
  have hlen : ∀ k, ((List.range (m * i.size)).map (fun j => f (n * i.size + j)))[k]? = if k < m * i.size then some (f (n * i.size + k)) else none := by
    intro k
    by_cases hk : k < m * i.size <;> simp [hk]
  have hnews : ∀ j u, ((List.range (m * i.size)).map (fun j => f (n * i.size + j)))[j]? = some u → w.cell? (ad.add j) = some u := by
    intro j u hj
    rw [hlen] at hj
    split at hj
    · rename_i hlt; cases hj; exact hnew j hlt
    · cases hj
  have hone : ∀ u ∈ (List.range (m * i.size)).map (fun j => f (n * i.size + j)), u.oneCell' = true := by
    intro u hu
    obtain ⟨j, hj, rfl⟩ := List.mem_map.1 hu
    exact h1 j (List.mem_range.1 hj)
  have hfull : ∀ k, k < (n + m) * i.size → k < n * i.size ∨ k - n * i.size < m * i.size := by
    intro k hk
    rw [Nat.add_mul] at hk
    omega
  by_cases hroom : n + m ≤ cap
  · have hfit : n * i.size + ((List.range (m * i.size)).map (fun j => f (n * i.size + j))).length ≤ cur.size := by
      simp only [List.length_map, List.length_range]
      rw [hcs, ← Nat.add_mul]
      exact Nat.mul_le_mul_right _ hroom
    have hr := run_append_room (P := P) w t ty e i he.ht hi g n cap cur hg ad m c _ (by simp) hnews hone hroom hfit
    refine ⟨g, cap, _, hr, ⟨hroom, hcm, _, setRow_heap w g cur _ e _ hg, ?_, ?_⟩, ⟨rfl, rfl, rfl, by simp, fun k _ hk => setRow_other w g k _ (fun e => hk (by simp [e]))⟩, .inl ⟨rfl, rfl⟩⟩
    · simp only [List.size_toArray, List.length_append, List.length_take, List.length_drop, Array.length_toList, List.length_map, List.length_range] at hfit ⊢
      omega
    · intro k hk
      have hn : n * i.size ≤ cur.size := by simp only [List.length_map, List.length_range] at hfit; omega
      simp only [List.getElem?_toArray]
      rw [List.append_assoc]
      rcases hfull k hk with h | h
      · rw [List.getElem?_append_left (by simp; omega), List.getElem?_take, if_pos h]
        simpa using hcur k h
      · by_cases h0 : k < n * i.size
        · rw [List.getElem?_append_left (by simp; omega), List.getElem?_take, if_pos h0]
          simpa using hcur k h0
        · have e1 : (List.take (n * i.size) cur.toList).length = n * i.size := by simp; omega
          rw [List.getElem?_append_right (by omega), e1, List.getElem?_append_left (by simp; omega), hlen, if_pos h]
          congr 2
          omega
  · have hcur' : ∀ j, j < n * i.size → j < cur.size := fun j hj => (Array.getElem?_eq_some_iff.1 (hcur j hj)).1
    have holds : ∀ j v, ((List.range (n * i.size)).map f)[j]? = some v → w.cell? ((⟨g, 0, none⟩ : Addr).add j) = some v := by
      intro j v hj
      have hlt : j < n * i.size := by
        rcases Nat.lt_or_ge j (n * i.size) with h | h
        · exact h
        · simp [h] at hj
      simp [hlt] at hj
      subst hj
      rw [addr_add, Nat.zero_add]
      simp [World.cell?, hg, hcur j hlt]
    have hr := run_append_grow (P := P) w t ty e i z he.ht hi hz ⟨g, 0, none⟩ n cap ((List.range (n * i.size)).map f) (by simp) holds ad m c _ (by simp) hnews (by omega) (by simp only [maxLen] at h63; omega) (growslice_fits (by omega) hbytes)
    have hge := grownCap_ge w (n + m) cap e
    refine ⟨w.heap.size, _, _, hr, ⟨hge, grownCap_le_maxLen w (n + m) cap e h63, _, heap_alloc_new w.drew _, ?_, ?_⟩, ⟨rfl, rfl, rfl, by simp, fun k hk _ => Below.heap_alloc w.drew _ k hk⟩, .inr (Nat.le_refl _)⟩
    · simp only [Array.size_append, List.size_toArray, size_zeroCells, he.zs, List.length_map, List.length_range, ← Nat.add_mul]
      congr 1
      omega
    · intro k hk
      have e2 : (n + m) * i.size = n * i.size + m * i.size := Nat.add_mul _ _ _
      rw [Array.append_assoc]
      by_cases h0 : k < n * i.size
      · rw [Array.getElem?_append_left (by simpa using h0)]
        simp [h0]
      · rw [Array.getElem?_append_right (by simp; omega), Array.getElem?_append_left (by simp; omega)]
        simp only [List.size_toArray, List.length_map, List.length_range, List.getElem?_toArray]
        rw [hlen, if_pos (by omega)]
        congr 2
        omega

/-- the same as a law for the walk: the source's cells lie where they lie -/
theorem wpList_app {P : Program} {w : World} {t e : TypeId} {z : Value} {s bytes : Nat} (he : Elem P t e z s bytes) {ops : Array Oper} {rest : List Oper} {o : Oper} {a : Act} {Q : Exit → Act → World → Prop} (hgd : o.guard = none) (so xo : Operand)
    (ho : o.op = .call { callee := .builtin .append, args := #[so, xo], argTypes := #[t, t] }) {g cap n : Nat} {f : Nat → Value} (hown : Own w g cap n s e f) (hs : a.eval so = .slice (some ⟨g, 0, none⟩) n cap)
    (ad : Addr) (m c : Nat) (hx : a.eval xo = .slice (some ad) m c) (hnew : ∀ j, j < m * s → w.cell? (ad.add j) = some (f (n * s + j))) (h1 : ∀ j, j < m * s → (f (n * s + j)).oneCell' = true)
    (h63 : n + m ≤ maxLen) (hbytes : (n + m) * bytes ≤ 140737488355328)
    (h : ∀ g' cap' w', Own w' g' cap' (n + m) s e f → w.grownBy w' (some g) → ((g' = g ∧ cap' = cap) ∨ w.heap.size ≤ g') → wpList P ops Q rest (a.put o.dst (.slice (some ⟨g', 0, none⟩) (n + m) cap')) w') : wpList P ops Q (o :: rest) a w := by
  refine wpList_plain hgd fun K hK => ?_
  obtain ⟨g', cap', w', hr, h2, h3, h4⟩ := run_app w he o.type hown ad m c hnew h1 h63 hbytes
  unfold Oper.wp execOp
  simp only [ho, resolve, invoke, builtin, Sem.run_bind, Sem.run_pure, Result.andThen_ok, List.map_toArray, List.map_cons, List.map_nil, hs, hx, hr]
  exact hK _ _ (h g' cap' w' h2 h3 h4)

/-- the same as a step of a region that draws its order -/
theorem step_app {P : Program} {w : World} {t e : TypeId} {z : Value} {s bytes : Nat} (he : Elem P t e z s bytes) {ops : Array Oper} {o : Oper} {a : Act} {K : Act → World → Prop} {Q : Exit → Act → World → Prop} {E : Prop} (hgd : o.guard = none) (so xo : Operand)
    (ho : o.op = .call { callee := .builtin .append, args := #[so, xo], argTypes := #[t, t] }) {g cap n : Nat} {f : Nat → Value} (hown : Own w g cap n s e f) (hs : a.eval so = .slice (some ⟨g, 0, none⟩) n cap)
    (ad : Addr) (m c : Nat) (hx : a.eval xo = .slice (some ad) m c) (hnew : ∀ j, j < m * s → w.cell? (ad.add j) = some (f (n * s + j))) (h1 : ∀ j, j < m * s → (f (n * s + j)).oneCell' = true)
    (h63 : n + m ≤ maxLen) (hbytes : (n + m) * bytes ≤ 140737488355328)
    (h : ∀ g' cap' w', Own w' g' cap' (n + m) s e f → w.grownBy w' (some g) → ((g' = g ∧ cap' = cap) ∨ w.heap.size ≤ g') → K (a.put o.dst (.slice (some ⟨g', 0, none⟩) (n + m) cap')) w') : if Region.wanted o (yielded ops a.tmps) = true then Oper.wp P o a w K Q else E := by
  have hw : Region.wanted o (yielded ops a.tmps) = true := by simp [Region.wanted, hgd]
  rw [if_pos hw]
  obtain ⟨g', cap', w', hr, h2, h3, h4⟩ := run_app w he o.type hown ad m c hnew h1 h63 hbytes
  unfold Oper.wp execOp
  simp only [ho, resolve, invoke, builtin, Sem.run_bind, Sem.run_pure, Result.andThen_ok, List.map_toArray, List.map_cons, List.map_nil, hs, hx, hr]
  exact h g' cap' w' h2 h3 h4

/-- append of ONE element: the walk has laid it in a new block of its own -/
theorem wpList_push {P : Program} {w : World} {t e : TypeId} {z : Value} {s bytes : Nat} (he : Elem P t e z s bytes) {ops : Array Oper} {rest : List Oper} {o : Oper} {a : Act} {Q : Exit → Act → World → Prop} (hgd : o.guard = none) (so xo : Operand)
    (ho : o.op = .call { callee := .builtin .append, args := #[so, xo], argTypes := #[t, t] }) {g cap n : Nat} {f : Nat → Value} (hown : Own w g cap n s e f) (hs : a.eval so = .slice (some ⟨g, 0, none⟩) n cap)
    (vs : List Value) (hx : a.eval xo = .slice (some ⟨w.heap.size, 0, none⟩) 1 1) (hnew : ∀ j, j < s → vs[j]? = some (f (n * s + j))) (h1 : ∀ j, j < s → (f (n * s + j)).oneCell' = true)
    (h63 : n + 1 ≤ maxLen) (hbytes : (n + 1) * bytes ≤ 140737488355328)
    (h : ∀ g' cap' w', Own w' g' cap' (n + 1) s e f → w.grownBy w' (some g) → ((g' = g ∧ cap' = cap) ∨ w.heap.size < g') → wpList P ops Q rest (a.put o.dst (.slice (some ⟨g', 0, none⟩) (n + 1) cap')) w') : wpList P ops Q (o :: rest) a (w.alloc (.cells vs.toArray e)) := by
  refine wpList_app he hgd so xo ho (hown.alloc _) hs ⟨w.heap.size, 0, none⟩ 1 1 hx (fun j hj => ?_) (fun j hj => h1 j (by omega)) h63 hbytes (fun g' cap' w' h2 h3 h4 => ?_)
  · rw [addr_add, Nat.zero_add]
    have hh : (w.alloc (.cells vs.toArray e)).heap[w.heap.size]? = some (.cells vs.toArray e (0, 0)) := heap_alloc_new _ _
    simp only [World.cell?, hh]
    simpa using hnew j (by omega)
  · refine h g' cap' w' h2 (grownBy_trans (World.grownBy_alloc w _ _) h3) ?_
    rcases h4 with h4 | h4
    · exact .inl h4
    · right
      have : (w.alloc (.cells vs.toArray e)).heap.size = w.heap.size + 1 := by simp
      omega

/-- append of one number -/
theorem wpList_pushI {P : Program} {w : World} {t e : TypeId} (he : Elem P t e (.int .i64 0) 1 8) {ops : Array Oper} {rest : List Oper} {o : Oper} {a : Act} {Q : Exit → Act → World → Prop} (hgd : o.guard = none) (so xo : Operand)
    (ho : o.op = .call { callee := .builtin .append, args := #[so, xo], argTypes := #[t, t] }) {g cap n : Nat} {f : Nat → Int} (hown : Own w g cap n 1 e (fun i => .int .i64 (f i))) (hs : a.eval so = .slice (some ⟨g, 0, none⟩) n cap)
    {q : Int} (hx : a.eval xo = .slice (some ⟨w.heap.size, 0, none⟩) 1 1) (hq : q = f n) (hn : n < 1000000000000)
    (h : ∀ g' cap' w', Own w' g' cap' (n + 1) 1 e (fun i => .int .i64 (f i)) → w.grownBy w' (some g) → ((g' = g ∧ cap' = cap) ∨ w.heap.size < g') → wpList P ops Q rest (a.put o.dst (.slice (some ⟨g', 0, none⟩) (n + 1) cap')) w') : wpList P ops Q (o :: rest) a (w.alloc (.cells #[.int .i64 q] e)) := by
  refine wpList_push he hgd so xo ho hown hs [.int .i64 q] hx (fun j hj => ?_) (fun j hj => rfl) (by unfold maxLen; omega) (by omega) h
  obtain rfl : j = 0 := by omega
  simp [hq]
/-- append of one value of one cell -/
theorem wpList_pushV {P : Program} {w : World} {t e : TypeId} {z : Value} {bytes : Nat} (he : Elem P t e z 1 bytes) {ops : Array Oper} {rest : List Oper} {o : Oper} {a : Act} {Q : Exit → Act → World → Prop} (hgd : o.guard = none) (so xo : Operand)
    (ho : o.op = .call { callee := .builtin .append, args := #[so, xo], argTypes := #[t, t] }) {g cap n : Nat} {f : Nat → Value} (hown : Own w g cap n 1 e f) (hs : a.eval so = .slice (some ⟨g, 0, none⟩) n cap)
    {q : Value} (hx : a.eval xo = .slice (some ⟨w.heap.size, 0, none⟩) 1 1) (hq : q = f n) (hone : q.oneCell' = true) (hn : n < 1000000000000) (hb : bytes ≤ 64)
    (h : ∀ g' cap' w', Own w' g' cap' (n + 1) 1 e f → w.grownBy w' (some g) → ((g' = g ∧ cap' = cap) ∨ w.heap.size < g') → wpList P ops Q rest (a.put o.dst (.slice (some ⟨g', 0, none⟩) (n + 1) cap')) w') : wpList P ops Q (o :: rest) a (w.alloc (.cells #[q] e)) := by
  have hm : (n + 1) * bytes ≤ 1000000000000 * 64 := Nat.mul_le_mul (by omega) hb
  refine wpList_push he hgd so xo ho hown hs [q] hx (fun j hj => ?_) (fun j hj => ?_) (by unfold maxLen; omega) (by omega) h
  · obtain rfl : j = 0 := by omega
    simp [hq]
  · obtain rfl : j = 0 := by omega
    have e1 : n * 1 + 0 = n := by omega
    rw [e1, ← hq]; exact hone

/-- 'make([]T, n, c)' as an equation for every world -/
theorem run_mk {P : Program} {t e : TypeId} {z : Value} {bytes : Nat} {s : Nat} (he : Elem P t e z s bytes) (n c : Nat) (hn : n ≤ c) (hb : bytes * c ≤ 281474976710656) (h63 : c ≤ 9223372036854775807) (w : World) :
    (Instr.makeSlice t (.int .i64 (n : Int)) (.int .i64 (c : Int))).run P w = .ok (.slice (some ⟨w.heap.size, 0, none⟩) n c) (w.alloc (.cells (madeCells z.cells (c * s)) e)) := by
  obtain ⟨i, hi, hz, hsz, hby⟩ := info_parts he.info
  have hb' : (i.bytes : Int) * (c : Int) ≤ 281474976710656 := by
    have h : ((i.bytes * c : Nat) : Int) ≤ 281474976710656 := by rw [hby]; omega
    rwa [Int.natCast_mul] at h
  have hr := run_make (P := P) w t e i z he.ht hi hz .i64 .i64 (n : Int) (c : Int) (by omega) (by omega) hb' (by omega)
  simp only [Int.toNat_natCast, hsz] at hr
  exact hr
/-- 'make([]T, 0, c)' -/
theorem run_mk0 {P : Program} {t e : TypeId} {z : Value} {bytes : Nat} {s : Nat} (he : Elem P t e z s bytes) (c : Nat) (hb : bytes * c ≤ 281474976710656) (h63 : c ≤ 9223372036854775807) (w : World) :
    (Instr.makeSlice t (.int .i64 0) (.int .i64 (c : Int))).run P w = .ok (.slice (some ⟨w.heap.size, 0, none⟩) 0 c) (w.alloc (.cells (madeCells z.cells (c * s)) e)) :=
  run_mk he 0 c (Nat.zero_le _) hb h63 w
end Go.Proofs.Ytokddeoliieofaa
