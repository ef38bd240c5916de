/-
  Parts of the proof: Own Base Rd A Sm Pa Bx. No condition.
-/
import Derived.WalkKit
import Derived.WalkSpells
import Derived.WalkLawsBesides
import Derived.Lib.Hide
import Derived.BigQuiet
import Derived.Deep.QuietTactic
import Derived.Deep.RegionHeld3
import Derived.Deep.DeepFit
import Derived.Test.YtlkdmpfifpkpaaaGreatDoorChecked
import Derived.Laws.BitsAllLaws
namespace Go.Proofs.YtlkdmpfifpkpaaaGreatDoor
open Go.RowKit
def Own (w : World) (g cap n s : Nat) (t : TypeId) (f : Nat → Value) : Prop :=
 n ≤ cap ∧ cap ≤ maxLen ∧ ∃ cur, w.heap[g]? = some (.cells cur t (0, 0)) ∧ cur.size = cap * s ∧ ∀ i, i < n * s → cur[i]? = some (f i)
theorem Own.lt {w : World} {g cap n s : Nat} {t : TypeId} {f : Nat → Value} (h : Own w g cap n s t f) : g < w.heap.size := by
 obtain ⟨_, _, cur, hg, _⟩ := h
 exact (Array.getElem?_eq_some_iff.1 hg).1
theorem Own.cell {w : World} {g cap n s : Nat} {t : TypeId} {f : Nat → Value} (h : Own w g cap n s t f) {i : Nat} (hi : i < n * s) : w.cell? ⟨g, i, none⟩ = some (f i) := by
 obtain ⟨_, _, cur, hg, _, hc⟩ := h
 simp [World.cell?, hg, hc i hi]
theorem Own.cell1 {w : World} {g cap n : Nat} {t : TypeId} {f : Nat → Value} (h : Own w g cap n 1 t f) {i : Nat} (hi : i < n) : w.cell? ⟨g, i, none⟩ = some (f i) := h.cell (by omega)
theorem Own.free {w : World} {g cap n s : Nat} {t : TypeId} {f : Nat → Value} (h : Own w g cap n s t f) (i : Nat) : w.frozen? ⟨g, i, none⟩ = false := by
 obtain ⟨_, _, cur, hg, _⟩ := h
 simp [World.frozen?, hg]
theorem Own.of_block {w w' : World} {g cap n s : Nat} {t : TypeId} {f : Nat → Value} (h : Own w g cap n s t f) (e : w'.heap[g]? = w.heap[g]?) : Own w' g cap n s t f := by
 obtain ⟨h1, h2, cur, hg, h3, h4⟩ := h
 exact ⟨h1, h2, cur, e.trans hg, h3, h4⟩
theorem Own.congr {w : World} {g cap n s : Nat} {t : TypeId} {f f' : Nat → Value} (h : Own w g cap n s t f) (e : ∀ i, i < n * s → f i = f' i) : Own w g cap n s t f' := by
 obtain ⟨h1, h2, cur, hg, h3, h4⟩ := h
 exact ⟨h1, h2, cur, hg, h3, fun i hi => by rw [h4 i hi, e i hi]⟩
theorem Own.alloc {w : World} {g cap n s : Nat} {t : TypeId} {f : Nat → Value} (h : Own w g cap n s t f) (o : Obj) : Own (w.alloc o) g cap n s t f :=
 h.of_block (Below.heap_alloc _ _ _ h.lt)
theorem Own.drew {w : World} {g cap n s : Nat} {t : TypeId} {f : Nat → Value} (h : Own w g cap n s t f) : Own w.drew g cap n s t f := h
theorem Own.below {w w' : World} {g cap n s B : Nat} {t : TypeId} {f : Nat → Value} (h : Own w g cap n s t f) (hb : Below B w w') (hg : g < B) : Own w' g cap n s t f := h.of_block (hb.block g hg)
theorem Own.kept {w w' : World} {g cap n s : Nat} {t : TypeId} {f : Nat → Value} (h : Own w g cap n s t f) {row : Option Nat} (hb : w.grownBy w' row) (hg : some g ≠ row) : Own w' g cap n s t f := h.of_block (hb.block g h.lt hg)
theorem Own.setOther {w : World} {g cap n s : Nat} {t : TypeId} {f : Nat → Value} (h : Own w g cap n s t f) {a : Addr} (ha : g ≠ a.block) (v : Value) : Own (w.setCell a v) g cap n s t f :=
 h.of_block (Below.heap_setCell _ _ _ _ ha)
theorem Own.set {w : World} {g cap n s : Nat} {t : TypeId} {f : Nat → Value} (h : Own w g cap n s t f) (i : Nat) (v : Value) : Own (w.setCell ⟨g, i, none⟩ v) g cap n s t (fun j => if j = i then v else f j) := by
 obtain ⟨h1, h2, c, hb, hn, hc⟩ := h
 refine ⟨h1, h2, c.setIfInBounds i v, ?_, by simpa using hn, fun j hj => ?_⟩
 ·simp [World.setCell, Array.getElem?_modify, hb]
 ·rw [Array.getElem?_setIfInBounds]
  have hj' : j < c.size := (Array.getElem?_eq_some_iff.1 (hc j hj)).1
  by_cases e : j = i
  ·subst e
   simp [hj']
  ·rw [if_neg (fun h => e h.symm)]
   show c[j]? = some (if j = i then v else f j)
   rw [if_neg e]
   exact hc j hj
theorem own_made (w : World) (z : Value) (cap s : Nat) (t : TypeId) (f : Nat → Value) (hc : cap ≤ maxLen) : Own (w.alloc (.cells (madeCells #[z] (cap * s)) t)) w.heap.size cap 0 s t f :=
 ⟨Nat.zero_le _, hc, _, heap_alloc_new _ _, size_madeCells _ _, fun i hi => by omega⟩
theorem own_made1 (w : World) (z : Value) (cap : Nat) (t : TypeId) (f : Nat → Value) (hc : cap ≤ maxLen) : Own (w.alloc (.cells (madeCells #[z] cap) t)) w.heap.size cap 0 1 t f := by
 have := own_made w z cap 1 t f hc
 rwa [Nat.mul_one] at this
theorem own_full1 (w : World) (z : Value) (n : Nat) (t : TypeId) (hc : n ≤ maxLen) : Own (w.alloc (.cells (madeCells #[z] n) t)) w.heap.size n n 1 t (fun _ => z) :=
 ⟨Nat.le_refl _, hc, _, heap_alloc_new _ _, by rw [size_madeCells]; simp, fun i hi => by
  rw [Nat.mul_one] at hi
  simp [madeCells, hi, Nat.mod_one]⟩
theorem own_empty (w : World) (s : Nat) (t : TypeId) (f : Nat → Value) : Own (w.alloc (.cells #[] t)) w.heap.size 0 0 s t f :=
 ⟨Nat.le_refl _, Nat.zero_le _, _, heap_alloc_new _ _, by simp, fun i hi => by omega⟩
theorem grownBy_trans {a b c : World} {row : Option Nat} (h : a.grownBy b row) (k : b.grownBy c row) : a.grownBy c row :=
 ⟨k.os.trans h.os, k.tape.trans h.tape, k.output.trans h.output, Nat.le_trans h.size k.size, fun i hi hr => (k.block i (Nat.lt_of_lt_of_le hi h.size) hr).trans (h.block i hi hr)⟩
theorem grownBy_drewN (w : World) (q : Nat) (row : Option Nat) : w.grownBy (w.drewN q) row := ⟨rfl, rfl, rfl, Nat.le_refl _, fun _ _ _ => rfl⟩
theorem grownBy_below {w w' : World} (h : Below w.heap.size w w') (row : Option Nat) : w.grownBy w' row := ⟨h.os, h.tape, h.output, h.size, fun k hk _ => h.block k hk⟩
theorem grownBy_setCell (w : World) (b o : Nat) (v : Value) : w.grownBy (w.setCell ⟨b, o, none⟩ v) (some b) := ⟨rfl, rfl, rfl, by simp [World.setCell], fun k _ hr => Below.heap_setCell _ _ _ _ (fun e => hr (by rw [e]))⟩
theorem below_of_grown {B : Nat} {w w' : World} {g : Nat} (h : w.grownBy w' (some g)) (hB : B ≤ g) (hw : B ≤ w.heap.size) : Below B w w' :=
 ⟨h.os, h.tape, h.output, h.size, fun k hk => h.block k (by omega) (fun e => by simp at e; omega)⟩
structure Elem (P : Program) (t e : TypeId) (z : Value) (s bytes : Nat) : Prop where
  ht : P.underlying t = some (.slice e)
  info : (P.info? e).map (fun i => (i.zero, i.size, i.bytes)) = some (some z, s, bytes)
  zs : z.cells.size = s
  pos : 0 < s
theorem addr_add (b o j : Nat) : (⟨b, o, none⟩ : Addr).add j = ⟨b, o + j, none⟩ := by unfold Addr.add; split <;> simp_all
theorem run_app {P : Program} (w : World) {t e : TypeId} {z : Value} {s bytes : Nat} (he : Elem P t e z s bytes) (ty : TypeId) {g cap n : Nat} {f : Nat → Value} (hown : Own w g cap n s e f)
    (ad : Addr) (m c : Nat) (hnew : ∀ j, j < m * s → w.cell? (ad.add j) = some (f (n * s + j))) (h1 : ∀ j, j < m * s → (f (n * s + j)).oneCell' = true)
    (h63 : n + m ≤ maxLen) (hbytes : (n + m) * bytes ≤ 140737488355328) :
    ∃ g' cap' w', (Builtin.append_ #[t, t] ty #[.slice (some ⟨g, 0, none⟩) n cap, .slice (some ad) m c]).run P w = .ok (.slice (some ⟨g', 0, none⟩) (n + m) cap') w' ∧
      Own w' g' cap' (n + m) s e f ∧ w.grownBy w' (some g) ∧ ((g' = g ∧ cap' = cap) ∨ w.heap.size ≤ g') := by
  obtain ⟨i, hi, hz, hsz, hby⟩ := info_parts he.info
  obtain ⟨hnc, hcm, cur, hg, hcs, hcur⟩ := hown
  subst hsz
  subst hby
  have hlen : ∀ k, ((List.range (m * i.size)).map (fun j => f (n * i.size + j)))[k]? = if k < m * i.size then some (f (n * i.size + k)) else none := by
   intro k
   by_cases hk : k < m * i.size <;> simp [hk]
  have hnews : ∀ j u, ((List.range (m * i.size)).map (fun j => f (n * i.size + j)))[j]? = some u → w.cell? (ad.add j) = some u := by
   intro j u hj
   rw [hlen] at hj
   split at hj
   ·rename_i hlt; cases hj; exact hnew j hlt
   ·cases hj
  have hone : ∀ u ∈ (List.range (m * i.size)).map (fun j => f (n * i.size + j)), u.oneCell' = true := by
   intro u hu
   obtain ⟨j, hj, rfl⟩ := List.mem_map.1 hu
   exact h1 j (List.mem_range.1 hj)
  have hfull : ∀ k, k < (n + m) * i.size → k < n * i.size ∨ k - n * i.size < m * i.size := by
   intro k hk
   rw [Nat.add_mul] at hk
   omega
  by_cases hroom : n + m ≤ cap
  ·have hfit : n * i.size + ((List.range (m * i.size)).map (fun j => f (n * i.size + j))).length ≤ cur.size := by
    simp only [List.length_map, List.length_range]
    rw [hcs, ← Nat.add_mul]
    exact Nat.mul_le_mul_right _ hroom
   have hr := run_append_room (P := P) w t ty e i he.ht hi g n cap cur hg ad m c _ (by simp) hnews hone hroom hfit
   refine ⟨g, cap, _, hr, ⟨hroom, hcm, _, setRow_heap w g cur _ e _ hg, ?_, ?_⟩, ⟨rfl, rfl, rfl, by simp, fun k _ hk => setRow_other w g k _ (fun e => hk (by simp [e]))⟩, .inl ⟨rfl, rfl⟩⟩
   ·simp only [List.size_toArray, List.length_append, List.length_take, List.length_drop, Array.length_toList, List.length_map, List.length_range] at hfit ⊢
    omega
   ·intro k hk
    have hn : n * i.size ≤ cur.size := by simp only [List.length_map, List.length_range] at hfit; omega
    simp only [List.getElem?_toArray]
    rw [List.append_assoc]
    rcases hfull k hk with h | h
    ·rw [List.getElem?_append_left (by simp; omega), List.getElem?_take, if_pos h]
     simpa using hcur k h
    ·by_cases h0 : k < n * i.size
     ·rw [List.getElem?_append_left (by simp; omega), List.getElem?_take, if_pos h0]
      simpa using hcur k h0
     ·have e1 : (List.take (n * i.size) cur.toList).length = n * i.size := by simp; omega
      rw [List.getElem?_append_right (by omega), e1, List.getElem?_append_left (by simp; omega), hlen, if_pos h]
      congr 2
      omega
  ·have hcur' : ∀ j, j < n * i.size → j < cur.size := fun j hj => (Array.getElem?_eq_some_iff.1 (hcur j hj)).1
   have holds : ∀ j v, ((List.range (n * i.size)).map f)[j]? = some v → w.cell? ((⟨g, 0, none⟩ : Addr).add j) = some v := by
    intro j v hj
    have hlt : j < n * i.size := by
     rcases Nat.lt_or_ge j (n * i.size) with h | h
     ·exact h
     ·simp [h] at hj
    simp [hlt] at hj
    subst hj
    rw [addr_add, Nat.zero_add]
    simp [World.cell?, hg, hcur j hlt]
   have hr := run_append_grow (P := P) w t ty e i z he.ht hi hz ⟨g, 0, none⟩ n cap ((List.range (n * i.size)).map f) (by simp) holds ad m c _ (by simp) hnews (by omega) (by simp only [maxLen] at h63; omega) (growslice_fits (by omega) hbytes)
   have hge := grownCap_ge w (n + m) cap e
   refine ⟨w.heap.size, _, _, hr, ⟨hge, grownCap_le_maxLen w (n + m) cap e h63, _, heap_alloc_new w.drew _, ?_, ?_⟩, ⟨rfl, rfl, rfl, by simp, fun k hk _ => Below.heap_alloc w.drew _ k hk⟩, .inr (Nat.le_refl _)⟩
   ·simp only [Array.size_append, List.size_toArray, size_zeroCells, he.zs, List.length_map, List.length_range, ← Nat.add_mul]
    congr 1
    omega
   ·intro k hk
    have e2 : (n + m) * i.size = n * i.size + m * i.size := Nat.add_mul _ _ _
    rw [Array.append_assoc]
    by_cases h0 : k < n * i.size
    ·rw [Array.getElem?_append_left (by simpa using h0)]
     simp [h0]
    ·rw [Array.getElem?_append_right (by simp; omega), Array.getElem?_append_left (by simp; omega)]
     simp only [List.size_toArray, List.length_map, List.length_range, List.getElem?_toArray]
     rw [hlen, if_pos (by omega)]
     congr 2
     omega
theorem wpList_app {P : Program} {w : World} {t e : TypeId} {z : Value} {s bytes : Nat} (he : Elem P t e z s bytes) {ops : Array Oper} {rest : List Oper} {o : Oper} {a : Act} {Q : Exit → Act → World → Prop} (hgd : o.guard = none) (so xo : Operand)
    (ho : o.op = .call { callee := .builtin .append, args := #[so, xo], argTypes := #[t, t] }) {g cap n : Nat} {f : Nat → Value} (hown : Own w g cap n s e f) (hs : a.eval so = .slice (some ⟨g, 0, none⟩) n cap)
    (ad : Addr) (m c : Nat) (hx : a.eval xo = .slice (some ad) m c) (hnew : ∀ j, j < m * s → w.cell? (ad.add j) = some (f (n * s + j))) (h1 : ∀ j, j < m * s → (f (n * s + j)).oneCell' = true)
    (h63 : n + m ≤ maxLen) (hbytes : (n + m) * bytes ≤ 140737488355328)
    (h : ∀ g' cap' w', Own w' g' cap' (n + m) s e f → w.grownBy w' (some g) → ((g' = g ∧ cap' = cap) ∨ w.heap.size ≤ g') → wpList P ops Q rest (a.put o.dst (.slice (some ⟨g', 0, none⟩) (n + m) cap')) w') : wpList P ops Q (o :: rest) a w := by
  refine wpList_plain hgd fun K hK => ?_
  obtain ⟨g', cap', w', hr, h2, h3, h4⟩ := run_app w he o.type hown ad m c hnew h1 h63 hbytes
  unfold Oper.wp execOp
  simp only [ho, resolve, invoke, builtin, Sem.run_bind, Sem.run_pure, Result.andThen_ok, List.map_toArray, List.map_cons, List.map_nil, hs, hx, hr]
  exact hK _ _ (h g' cap' w' h2 h3 h4)
theorem step_app {P : Program} {w : World} {t e : TypeId} {z : Value} {s bytes : Nat} (he : Elem P t e z s bytes) {ops : Array Oper} {o : Oper} {a : Act} {K : Act → World → Prop} {Q : Exit → Act → World → Prop} {E : Prop} (hgd : o.guard = none) (so xo : Operand)
    (ho : o.op = .call { callee := .builtin .append, args := #[so, xo], argTypes := #[t, t] }) {g cap n : Nat} {f : Nat → Value} (hown : Own w g cap n s e f) (hs : a.eval so = .slice (some ⟨g, 0, none⟩) n cap)
    (ad : Addr) (m c : Nat) (hx : a.eval xo = .slice (some ad) m c) (hnew : ∀ j, j < m * s → w.cell? (ad.add j) = some (f (n * s + j))) (h1 : ∀ j, j < m * s → (f (n * s + j)).oneCell' = true)
    (h63 : n + m ≤ maxLen) (hbytes : (n + m) * bytes ≤ 140737488355328)
    (h : ∀ g' cap' w', Own w' g' cap' (n + m) s e f → w.grownBy w' (some g) → ((g' = g ∧ cap' = cap) ∨ w.heap.size ≤ g') → K (a.put o.dst (.slice (some ⟨g', 0, none⟩) (n + m) cap')) w') : if Region.wanted o (yielded ops a.tmps) = true then Oper.wp P o a w K Q else E := by
  have hw : Region.wanted o (yielded ops a.tmps) = true := by simp [Region.wanted, hgd]
  rw [if_pos hw]
  obtain ⟨g', cap', w', hr, h2, h3, h4⟩ := run_app w he o.type hown ad m c hnew h1 h63 hbytes
  unfold Oper.wp execOp
  simp only [ho, resolve, invoke, builtin, Sem.run_bind, Sem.run_pure, Result.andThen_ok, List.map_toArray, List.map_cons, List.map_nil, hs, hx, hr]
  exact h g' cap' w' h2 h3 h4
theorem wpList_push {P : Program} {w : World} {t e : TypeId} {z : Value} {s bytes : Nat} (he : Elem P t e z s bytes) {ops : Array Oper} {rest : List Oper} {o : Oper} {a : Act} {Q : Exit → Act → World → Prop} (hgd : o.guard = none) (so xo : Operand)
    (ho : o.op = .call { callee := .builtin .append, args := #[so, xo], argTypes := #[t, t] }) {g cap n : Nat} {f : Nat → Value} (hown : Own w g cap n s e f) (hs : a.eval so = .slice (some ⟨g, 0, none⟩) n cap)
    (vs : List Value) (hx : a.eval xo = .slice (some ⟨w.heap.size, 0, none⟩) 1 1) (hnew : ∀ j, j < s → vs[j]? = some (f (n * s + j))) (h1 : ∀ j, j < s → (f (n * s + j)).oneCell' = true)
    (h63 : n + 1 ≤ maxLen) (hbytes : (n + 1) * bytes ≤ 140737488355328)
    (h : ∀ g' cap' w', Own w' g' cap' (n + 1) s e f → w.grownBy w' (some g) → ((g' = g ∧ cap' = cap) ∨ w.heap.size < g') → wpList P ops Q rest (a.put o.dst (.slice (some ⟨g', 0, none⟩) (n + 1) cap')) w') : wpList P ops Q (o :: rest) a (w.alloc (.cells vs.toArray e)) := by
  refine wpList_app he hgd so xo ho (hown.alloc _) hs ⟨w.heap.size, 0, none⟩ 1 1 hx (fun j hj => ?_) (fun j hj => h1 j (by omega)) h63 hbytes (fun g' cap' w' h2 h3 h4 => ?_)
  ·rw [addr_add, Nat.zero_add]
   have hh : (w.alloc (.cells vs.toArray e)).heap[w.heap.size]? = some (.cells vs.toArray e (0, 0)) := heap_alloc_new _ _
   simp only [World.cell?, hh]
   simpa using hnew j (by omega)
  ·refine h g' cap' w' h2 (grownBy_trans (World.grownBy_alloc w _ _) h3) ?_
   rcases h4 with h4 | h4
   ·exact .inl h4
   ·right
    have : (w.alloc (.cells vs.toArray e)).heap.size = w.heap.size + 1 := by simp
    omega
theorem wpList_pushI {P : Program} {w : World} {t e : TypeId} (he : Elem P t e (.int .i64 0) 1 8) {ops : Array Oper} {rest : List Oper} {o : Oper} {a : Act} {Q : Exit → Act → World → Prop} (hgd : o.guard = none) (so xo : Operand)
    (ho : o.op = .call { callee := .builtin .append, args := #[so, xo], argTypes := #[t, t] }) {g cap n : Nat} {f : Nat → Int} (hown : Own w g cap n 1 e (fun i => .int .i64 (f i))) (hs : a.eval so = .slice (some ⟨g, 0, none⟩) n cap)
    {q : Int} (hx : a.eval xo = .slice (some ⟨w.heap.size, 0, none⟩) 1 1) (hq : q = f n) (hn : n < 1000000000000)
    (h : ∀ g' cap' w', Own w' g' cap' (n + 1) 1 e (fun i => .int .i64 (f i)) → w.grownBy w' (some g) → ((g' = g ∧ cap' = cap) ∨ w.heap.size < g') → wpList P ops Q rest (a.put o.dst (.slice (some ⟨g', 0, none⟩) (n + 1) cap')) w') : wpList P ops Q (o :: rest) a (w.alloc (.cells #[.int .i64 q] e)) := by
  refine wpList_push he hgd so xo ho hown hs [.int .i64 q] hx (fun j hj => ?_) (fun j hj => rfl) (by unfold maxLen; omega) (by omega) h
  obtain rfl : j = 0 := by omega
  simp [hq]
theorem wpList_pushV {P : Program} {w : World} {t e : TypeId} {z : Value} {bytes : Nat} (he : Elem P t e z 1 bytes) {ops : Array Oper} {rest : List Oper} {o : Oper} {a : Act} {Q : Exit → Act → World → Prop} (hgd : o.guard = none) (so xo : Operand)
    (ho : o.op = .call { callee := .builtin .append, args := #[so, xo], argTypes := #[t, t] }) {g cap n : Nat} {f : Nat → Value} (hown : Own w g cap n 1 e f) (hs : a.eval so = .slice (some ⟨g, 0, none⟩) n cap)
    {q : Value} (hx : a.eval xo = .slice (some ⟨w.heap.size, 0, none⟩) 1 1) (hq : q = f n) (hone : q.oneCell' = true) (hn : n < 1000000000000) (hb : bytes ≤ 64)
    (h : ∀ g' cap' w', Own w' g' cap' (n + 1) 1 e f → w.grownBy w' (some g) → ((g' = g ∧ cap' = cap) ∨ w.heap.size < g') → wpList P ops Q rest (a.put o.dst (.slice (some ⟨g', 0, none⟩) (n + 1) cap')) w') : wpList P ops Q (o :: rest) a (w.alloc (.cells #[q] e)) := by
  have hm : (n + 1) * bytes ≤ 1000000000000 * 64 := Nat.mul_le_mul (by omega) hb
  refine wpList_push he hgd so xo ho hown hs [q] hx (fun j hj => ?_) (fun j hj => ?_) (by unfold maxLen; omega) (by omega) h
  ·obtain rfl : j = 0 := by omega
   simp [hq]
  ·obtain rfl : j = 0 := by omega
   have e1 : n * 1 + 0 = n := by omega
   rw [e1, ← hq]; exact hone
theorem run_mk {P : Program} {t e : TypeId} {z : Value} {bytes : Nat} {s : Nat} (he : Elem P t e z s bytes) (n c : Nat) (hn : n ≤ c) (hb : bytes * c ≤ 281474976710656) (h63 : c ≤ 9223372036854775807) (w : World) :
    (Instr.makeSlice t (.int .i64 (n : Int)) (.int .i64 (c : Int))).run P w = .ok (.slice (some ⟨w.heap.size, 0, none⟩) n c) (w.alloc (.cells (madeCells z.cells (c * s)) e)) := by
  obtain ⟨i, hi, hz, hsz, hby⟩ := info_parts he.info
  have hb' : (i.bytes : Int) * (c : Int) ≤ 281474976710656 := by
   have h : ((i.bytes * c : Nat) : Int) ≤ 281474976710656 := by rw [hby]; omega
   rwa [Int.natCast_mul] at h
  have hr := run_make (P := P) w t e i z he.ht hi hz .i64 .i64 (n : Int) (c : Int) (by omega) (by omega) hb' (by omega)
  simp only [Int.toNat_natCast, hsz] at hr
  exact hr
theorem run_mk0 {P : Program} {t e : TypeId} {z : Value} {bytes : Nat} {s : Nat} (he : Elem P t e z s bytes) (c : Nat) (hb : bytes * c ≤ 281474976710656) (h63 : c ≤ 9223372036854775807) (w : World) :
    (Instr.makeSlice t (.int .i64 0) (.int .i64 (c : Int))).run P w = .ok (.slice (some ⟨w.heap.size, 0, none⟩) 0 c) (w.alloc (.cells (madeCells z.cells (c * s)) e)) :=
  run_mk he 0 c (Nat.zero_le _) hb h63 w
set_option linter.unusedVariables false in
theorem tkR (i : Nat) {P : Program} {md : Region.Mode} {ops : Array Oper} {Q : Exit → Act → World → Prop} {S : World → Prop} {oi : Oper} {v : Value} {fuel : Nat} {listed listed' : Array Bool} {a a' : Act} {w : World}
    (h : wpAnyH P md ops Q S fuel listed' a' w)
    (hi : ops[i]? = some oi := by (simp only [List.getElem?_toArray, List.getElem?_cons_succ, List.getElem?_cons_zero]; rfl))
    (hs : Region.noSelect ops = true := by kernel_rfl) (hf : Region.free md ops listed i = true := by kernel_rfl) (hr : (Region.ready md ops listed).contains i = true := by kernel_rfl)
    (hQ : ∀ c a w, Q (.panic c) (a.put oi.dst v) w → Q (.panic c) a w := by exact fun _ _ _ h => h)
    (hy : YieldsIf P ops S oi v a := by
      first
        | (refine Or.inr ⟨?_, ?_⟩ <;> rfl)
        | (refine Or.inl ⟨?_, ?_⟩; · rfl
           intro w hSw; (try dsimp only at hSw); go_simp; (try with_reducible rfl); done))
    (hS : S w := by assumption)
    (hl : listed.setIfInBounds i true = listed' := by (try simp only [List.setIfInBounds_toArray, List.set_cons_zero, List.set_cons_succ]); rfl)
    (ha : a.put oi.dst v = a' := by (try simp only [Act.put, List.setIfInBounds_toArray, List.set_cons_zero, List.set_cons_succ]); rfl) : wpAnyH P md ops Q S (fuel + 1) listed a w := by
  subst hl ha
  exact wpAnyH_take hi hs hf hr hQ hy hS h
set_option linter.unusedVariables false in
theorem r1R (i : Nat) {P : Program} {md : Region.Mode} {ops : Array Oper} {Q : Exit → Act → World → Prop} {S : World → Prop} {o : Oper} {fuel : Nat} {listed : Array Bool} {a : Act} {w : World}
    (h : ∀ K' : Act → World → Prop, Shut (∀ a w, S w → (S w → wpAnyH P md ops Q S fuel (listed.setIfInBounds i true) a w) → K' a w) → if Region.wanted o (yielded ops a.tmps) = true then Oper.wp P o a w K' Q else K' (a.put o.dst undef) w)
    (hr : Region.ready md ops listed = [i] := by kernel_rfl) (ho : ops[i]? = some o := by (simp only [List.getElem?_toArray, List.getElem?_cons_succ, List.getElem?_cons_zero]; rfl)) : wpAnyH P md ops Q S (fuel + 1) listed a w :=
  wpAnyH_ready hr (by simp) (AllReadyH.cons ho h AllReadyH.nil)
set_option linter.unusedVariables false in
theorem c1R {i : Nat} {rs : List Nat} {P : Program} {md : Region.Mode} {ops : Array Oper} {Q : Exit → Act → World → Prop} {S : World → Prop} {o : Oper} {fuel : Nat} {listed : Array Bool} {a : Act} {w : World}
    (h : ∀ K' : Act → World → Prop, Shut (∀ a w, S w → (S w → wpAnyH P md ops Q S fuel (listed.setIfInBounds i true) a w) → K' a w) → if Region.wanted o (yielded ops a.tmps) = true then Oper.wp P o a w K' Q else K' (a.put o.dst undef) w)
    (hs : AllReadyH P md ops Q S fuel listed a w rs) (ho : ops[i]? = some o := by (simp only [List.getElem?_toArray, List.getElem?_cons_succ, List.getElem?_cons_zero]; rfl)) : AllReadyH P md ops Q S fuel listed a w (i :: rs) :=
  AllReadyH.cons ho h hs
set_option linter.unusedVariables false in
theorem oR {P : Program} {md : Region.Mode} {ops : Array Oper} {Q : Exit → Act → World → Prop} {S : World → Prop} {K : Act → World → Prop} {fuel : Nat} {listed listed' : Array Bool} {a a' : Act} {w : World}
    (hK : Shut (∀ a w, S w → (S w → wpAnyH P md ops Q S fuel listed a w) → K a w)) (hS : S w) (h : S w → wpAnyH P md ops Q S fuel listed' a' w)
    (hl : listed = listed' := by (try simp only [List.setIfInBounds_toArray, List.set_cons_zero, List.set_cons_succ]); rfl)
    (ha : a = a' := by (try simp only [Act.put, List.setIfInBounds_toArray, List.set_cons_zero, List.set_cons_succ]); rfl) : K a w := by
  subst hl ha
  exact hK.out _ _ hS h
def inB (n lo hi : Int) : Bool := decide (lo ≤ n) && decide (n ≤ hi)
theorem inB_true {n lo hi : Int} : inB n lo hi = true ↔ lo ≤ n ∧ n ≤ hi := by simp [inB]
theorem inB_false {n lo hi : Int} : inB n lo hi = false ↔ ¬ (lo ≤ n ∧ n ≤ hi) := by
 rw [← inB_true]; cases inB n lo hi <;> simp
def allB (n : Nat) (p : Nat → Bool) : Bool := (List.range n).all p
theorem allB_true {n : Nat} {p : Nat → Bool} : allB n p = true ↔ ∀ k, k < n → p k = true := by simp [allB]
theorem allB_of {n : Nat} {p : Nat → Bool} (h : ∀ k, k < n → p k = true) : allB n p = true := allB_true.2 h
theorem allB_not {n k : Nat} {p : Nat → Bool} (hk : k < n) (h : p k = false) : allB n p = false := by
 cases e : allB n p
 ·rfl
 ·rw [allB_true.1 e k hk] at h; cases h
def IC (w : World) (b off n : Nat) (f : Nat → Int) : Prop := ∀ k, k < n → w.cell? ⟨b, off + k, none⟩ = some (.int .i64 (f k))
theorem IC.at {w : World} {b off n : Nat} {f : Nat → Int} (h : IC w b off n f) (k : Nat) : k < n → w.cell? ⟨b, off + k, none⟩ = some (.int .i64 (f k)) := h k
theorem IC.keep {w w' : World} {b off n : Nat} {f : Nat → Int} (h : IC w b off n f) (hb : Below w.heap.size w w') : IC w' b off n f := fun k hk => by
 have h1 := h k hk
 have h2 : b < w.heap.size := World.block_lt_of_cell? w ⟨b, off + k, none⟩ h1
 rw [hb.cell (p := ⟨b, off + k, none⟩) h2]; exact h1
theorem IC.of_own {w : World} {g cap n : Nat} {f : Nat → Int} {t : TypeId} (h : Own w g cap n 1 t (fun i => .int .i64 (f i))) : IC w g 0 n f := fun k hk => by
 rw [Nat.zero_add]; exact h.cell1 hk
def Dr (w w' : World) : Prop := ∃ q, w' = w.drewN q
theorem Dr.refl (w : World) : Dr w w := ⟨0, rfl⟩
theorem Dr.drewN {w w' : World} (h : Dr w w') (q : Nat) : Dr w (w'.drewN q) := by
 obtain ⟨r, rfl⟩ := h
 exact ⟨_, World.drewN_drewN _ _ _⟩
theorem box_cells {w w' : World} {cs : Array Value} {t : TypeId} {B : Nat} (hb : Below B (w.alloc (.cells cs t)) w') (hB : w.heap.size < B) : ∀ o, w'.cell? ⟨w.heap.size, o, none⟩ = cs[o]? := fun o => by
 rw [hb.cell (p := ⟨w.heap.size, o, none⟩) hB]
 have hh : (w.alloc (.cells cs t)).heap[w.heap.size]? = some (.cells cs t (0, 0)) := heap_alloc_new _ _
 simp only [World.cell?, hh]
 rfl
theorem box_keep {w w' : World} {b : Nat} {F : Nat → Option Value} (h : ∀ o, w.cell? ⟨b, o, none⟩ = F o) {B : Nat} (hb : Below B w w') (hB : b < B) : ∀ o, w'.cell? ⟨b, o, none⟩ = F o := fun o => by
 rw [hb.cell (p := ⟨b, o, none⟩) hB, h o]
theorem below_dr {w w' : World} (h : Dr w w') (B : Nat) : Below B w w' := by
 obtain ⟨q, rfl⟩ := h
 exact below_drewN (Below.refl _ _) q
theorem elInt : Elem Tryz.prog 29 3 (.int .i64 0) 1 8 := ⟨Tryz.underlying29, by kernel_rfl, rfl, by decide⟩
theorem retB {a b : Bool} (h : a = b) : Ending.returned (.bool a) = .returned (.bool b) := by rw [h]
theorem retI {a b : Int} (h : a = b) : Ending.returned (.int .i64 a) = .returned (.int .i64 b) := by rw [h]
theorem xor_pos (x y : Int) (hx : 0 ≤ x ∧ x ≤ 9223372036854775807) (hy : 0 ≤ y ∧ y ≤ 9223372036854775807) : 0 ≤ bits .xor .i64 x y ∧ bits .xor .i64 x y ≤ 9223372036854775807 := by
 obtain ⟨a, rfl⟩ := Int.eq_ofNat_of_zero_le hx.1
 obtain ⟨b, rfl⟩ := Int.eq_ofNat_of_zero_le hy.1
 have h1 : (BitVec.ofInt 64 (a : Int)).toNat = a := by
  rw [BitVec.ofInt_natCast, BitVec.toNat_ofNat]
  exact Nat.mod_eq_of_lt (by omega)
 have h2 : (BitVec.ofInt 64 (b : Int)).toNat = b := by
  rw [BitVec.ofInt_natCast, BitVec.toNat_ofNat]
  exact Nat.mod_eq_of_lt (by omega)
 have h3 : a ^^^ b < 2 ^ 63 := Nat.xor_lt_two_pow (by omega) (by omega)
 have h4 : bits .xor .i64 (a : Int) (b : Int) = IntKind.i64.wrap ((a ^^^ b : Nat) : Int) := by
  show IntKind.i64.wrap ((BitVec.ofInt 64 (a : Int) ^^^ BitVec.ofInt 64 (b : Int)).toNat : Int) = _
  rw [BitVec.toNat_xor, h1, h2]
 rw [h4, IntWalk.i64_in _ (by omega)]
 omega
def BSl (w : World) (ao : Option Addr) (n : Nat) : Prop := n = 0 ∨ ∃ (b o : Nat) (f : Nat → Int), ao = some ⟨b, o, none⟩ ∧ ∀ k, k < n → w.cell? ⟨b, o + k, none⟩ = some (.int .u8 (f k)) ∧ 0 ≤ f k ∧ f k ≤ (255 : Int)
theorem BSl.less {w : World} {ao : Option Addr} {n m : Nat} (h : BSl w ao n) (hm : m ≤ n) : BSl w ao m := by
 rcases h with h | ⟨b, o, f, e, h⟩
 ·exact .inl (by omega)
 ·exact .inr ⟨b, o, f, e, fun k hk => h k (by omega)⟩
def RdL (w : World) (R m : Nat) : Prop :=
 ∃ ao n c p, p ≤ m ∧ n ≤ 2000 ∧ w.heap[R]? = some (.cells #[.slice ao n c, .int .i64 ((p : Nat) : Int)] 83 (0, 0)) ∧
   (n = 0 ∨ ∃ (b o : Nat) (f : Nat → Int), ao = some ⟨b, o, none⟩ ∧ b < R ∧ ∀ k, k < n → w.cell? ⟨b, o + k, none⟩ = some (.int .u8 (f k)) ∧ 0 ≤ f k ∧ f k ≤ (255 : Int))
theorem RdL.lt {w : World} {R m : Nat} (h : RdL w R m) : R < w.heap.size := by
 obtain ⟨_, _, _, _, _, _, hg, _⟩ := h
 exact (Array.getElem?_eq_some_iff.1 hg).1
theorem RdL.mono {w : World} {R m m' : Nat} (h : RdL w R m) (hm : m ≤ m') : RdL w R m' := by
 obtain ⟨ao, n, c, p, h1, h2⟩ := h
 exact ⟨ao, n, c, p, by omega, h2⟩
theorem RdL.keep {w w' : World} {R m : Nat} (h : RdL w R m) (hb : Below w.heap.size w w') : RdL w' R m := by
 have hl := h.lt
 obtain ⟨ao, n, c, p, h1, h2, h3, h4⟩ := h
 refine ⟨ao, n, c, p, h1, h2, (hb.block R hl).trans h3, ?_⟩
 rcases h4 with h4 | ⟨b, o, f, e, hne, h4⟩
 ·exact .inl h4
 ·refine .inr ⟨b, o, f, e, hne, fun k hk => ?_⟩
  have g1 := h4 k hk
  have g2 : b < w.heap.size := World.block_lt_of_cell? w ⟨b, o + k, none⟩ g1.1
  exact ⟨by rw [hb.cell (p := ⟨b, o + k, none⟩) g2]; exact g1.1, g1.2⟩
def pkB (n v : Int) : Prop := (1 ≤ n → 0 ≤ v ∧ v < n) ∧ (n < 1 → v = 0)
theorem pkB_lt {n v : Int} (h : pkB n v) (hn : 1 ≤ n) : 0 ≤ v ∧ v < n := h.1 hn
theorem pkB_of {n v : Int} (hn : 1 ≤ n) (h : 0 ≤ v ∧ v < n) : pkB n v := ⟨fun _ => h, fun h' => by omega⟩
theorem pkB_zero {n : Int} : pkB n 0 := ⟨fun h => by omega, fun _ => rfl⟩
theorem pkB_mod {n x : Int} (hn : 1 ≤ n) : pkB n (x % n) := pkB_of hn ⟨Int.emod_nonneg _ (by omega), Int.emod_lt_of_pos _ (by omega)⟩
theorem pkB_tmod {n x : Int} (hn : 1 ≤ n) (hx : 0 ≤ x) : pkB n (x.tmod n) := by rw [Int.tmod_eq_emod_of_nonneg hx]; exact pkB_mod hn
theorem rd_step {w : World} {R m n c p : Nat} {ao : Option Addr} (hp : p ≤ m) (hn : n ≤ 2000) (hg : w.heap[R]? = some (.cells #[.slice ao n c, .int .i64 (p : Int)] 83 (0, 0)))
    (hB : n = 0 ∨ ∃ (b o : Nat) (f : Nat → Int), ao = some ⟨b, o, none⟩ ∧ b < R ∧ ∀ k, k < n → w.cell? ⟨b, o + k, none⟩ = some (.int .u8 (f k)) ∧ 0 ≤ f k ∧ f k ≤ (255 : Int)) :
    RdL (w.setCell ⟨R, 1, none⟩ (.int .i64 ((p : Int) + 1))) R (m + 1) := by
  refine ⟨ao, n, c, p + 1, by omega, hn, by simp [World.setCell, Array.getElem?_modify, hg], ?_⟩
  rcases hB with h | ⟨b, o, f, e, hne, h⟩
  ·exact .inl h
  ·refine .inr ⟨b, o, f, e, hne, fun k hk => ⟨?_, (h k hk).2⟩⟩
   rw [← (h k hk).1]
   exact World.cell?_of_block (w := w) (Below.heap_setCell _ _ _ _ (by dsimp only; omega))
set_option maxHeartbeats 1000000 in
theorem pick_any (R m : Nat) (n : Int) (w : World) (hn : -9223372036854775808 ≤ n ∧ n ≤ 9223372036854775807) (hm : m ≤ 1000000) (hr : RdL w R m) :
    Calls Tryz.prog 31 #[.pointer (some ⟨R, 0, none⟩), .int .i64 n] w fun e w' => ∃ v : Int, e = .returned (.int .i64 v) ∧ pkB n v ∧ RdL w' R (m + 1) ∧ w.grownBy w' (some R) := by
  obtain ⟨ao, k, c, p, hp, hk, hg, hB⟩ := hr
  have HS := Lib.hid (rd_step hp hk hg hB)
  have HG := Lib.hid (grownBy_setCell w R 1 (.int .i64 ((p : Int) + 1)))
  have c0 : w.cell? ⟨R, 0, none⟩ = some (.slice ao k c) := by simp [World.cell?, hg]
  have c1 : w.cell? ⟨R, 1, none⟩ = some (.int .i64 p) := by simp [World.cell?, hg]
  have hf : ∀ o, w.frozen? ⟨R, o, none⟩ = false := fun o => by simp [World.frozen?, hg]
  obtain ⟨hn0, hn1⟩ := hn
  clear hg
  by_cases h1 : n < 1
  ·clear hB
   go_enter Tryz.func31, Tryz.ntmps31
   go_wp2
   all_goals
     go_ret
     exact ⟨_, rfl, by first | exact pkB_zero | exact pkB_mod (by omega), HS.out, HG.out⟩
  ·by_cases h2 : k = 0
   ·subst h2
    clear hB
    go_enter Tryz.func31, Tryz.ntmps31
    go_wp2
    all_goals
      go_ret
      exact ⟨_, rfl, by first | exact pkB_zero | exact pkB_mod (by omega), HS.out, HG.out⟩
   ·rcases hB with hB | ⟨b, o, f, rfl, hne, hB⟩
    ·exact absurd hB h2
    ·have hne' : b ≠ R := by omega
     have hkz : ((k : Int) == 0) = false := by simp; omega
     by_cases h3 : p < k
     ·have hb := hB p h3
      obtain ⟨hbc, hb0, hb1⟩ := hb
      clear hB h2
      go_enter Tryz.func31, Tryz.ntmps31
      go_wp2
      all_goals
        go_ret
        exact ⟨_, rfl, by first | exact pkB_zero | exact pkB_mod (by omega), HS.out, HG.out⟩
     ·obtain ⟨i, hi⟩ : ∃ i, i = p % k := ⟨_, rfl⟩
      obtain ⟨j, hj⟩ : ∃ j, j = (p * 7 + 3) % k := ⟨_, rfl⟩
      obtain ⟨d, hd⟩ : ∃ d, d = p / k := ⟨_, rfl⟩
      have q1 : i < k := by rw [hi]; exact Nat.mod_lt _ (by omega)
      have q2 : j < k := by rw [hj]; exact Nat.mod_lt _ (by omega)
      have q3 : d ≤ p := by rw [hd]; exact Nat.div_le_self _ _
      have m1 : ((p : Int) % (k : Int)) = (i : Int) := by rw [hi]; rfl
      have m2 : (((p : Int) * 7 + 3) % (k : Int)) = (j : Int) := by rw [hj]; rfl
      have m3 : ((p : Int) / (k : Int)) = (d : Int) := by rw [hd]; rfl
      have hb := hB i q1
      have hb' := hB j q2
      clear hi hj hd
      obtain ⟨hbc, hb0, hb1⟩ := hb
      obtain ⟨hbc', hb0', hb1'⟩ := hb'
      clear hB h2
      go_enter Tryz.func31, Tryz.ntmps31
      go_wp2
      go_quiet (fail)
      go_wp2
      go_ret
      exact ⟨_, rfl, pkB_tmod (by omega) (xor_pos _ _ ⟨by omega, by omega⟩ ⟨by omega, by omega⟩).1, HS.out.keep (below_drewN (Below.refl _ _) _), grownBy_trans HG.out (grownBy_drewN _ _ _)⟩
theorem l6In_any (n lo hi : Int) (w : World) :
    Calls Tryz.prog 43 #[.int .i64 n, .int .i64 lo, .int .i64 hi] w fun e w' => e = .returned (.bool (inB n lo hi)) ∧ w = w' := by
  go_enter Tryz.func43, Tryz.ntmps43
  go_wp2
  all_goals go_ret
  all_goals exact ⟨retB (by simp only [inB]; simp; omega), rfl⟩
def SL (w : World) (v : Value) (n : Nat) (f : Nat → Int) : Prop :=
 (∃ b o c, v = .slice (some ⟨b, o, none⟩) n c ∧ IC w b o n f) ∨ (n = 0 ∧ ∃ ao c, v = .slice ao 0 c)
theorem SL.shape {w : World} {v : Value} {n : Nat} {f : Nat → Int} (h : SL w v n f) : ∃ ao c, v = .slice ao n c := by
 rcases h with ⟨b, o, c, e, _⟩ | ⟨rfl, ao, c, e⟩
 ·exact ⟨_, _, e⟩
 ·exact ⟨_, _, e⟩
theorem open_any (ao : Option Addr) (n c : Nat) (w : World) (hn : n ≤ 9223372036854775807) (hnc : n ≤ c) (hB : BSl w ao n) :
    Calls Tryz.prog 30 #[.slice ao n c] w fun e w' => ∃ R, e = .returned (.pointer (some ⟨R, 0, none⟩)) ∧ w.heap.size ≤ R ∧ RdL w' R 0 ∧ Below w.heap.size w w' := by
  have hbb : ∀ a, Below w.heap.size w (w.alloc a) := fun a => (Below.refl _ _).alloc (Nat.le_refl _) _
  have key : ∀ m : Nat, m ≤ n → m ≤ 2000 → RdL (w.alloc (.cells #[.slice ao m c, .int .i64 ((0 : Nat) : Int)] 83)) w.heap.size 0 := fun m hm h2 => by
   refine ⟨ao, m, c, 0, Nat.le_refl _, h2, heap_alloc_new _ _, ?_⟩
   rcases hB.less hm with h | ⟨b, o, f, e, h⟩
   ·exact .inl h
   ·by_cases h0 : m = 0
    ·exact .inl h0
    ·have hlt : b < w.heap.size := World.block_lt_of_cell? w ⟨b, o + 0, none⟩ (h 0 (by omega)).1
     refine .inr ⟨b, o, f, e, by omega, fun k hk => ⟨?_, (h k hk).2⟩⟩
     rw [(hbb _).cell (p := ⟨b, o + k, none⟩) hlt]
     exact (h k hk).1
  have K := Lib.hid key
  have HB := Lib.hid hbb
  clear key hbb
  by_cases h2 : n ≤ 2000
  ·go_enter Tryz.func30, Tryz.ntmps30
   go_wp2
   go_ret
   exact ⟨_, rfl, Nat.le_refl _, K.out n (Nat.le_refl _) h2, HB.out _⟩
  ·go_enter Tryz.func30, Tryz.ntmps30
   go_wp2
   go_ret
   exact ⟨_, rfl, Nat.le_refl _, K.out 2000 (by omega) (by omega), HB.out _⟩
structure Pt where
  I : Nat → Int
  ni : Nat
  O : Nat → Int
  no : Nat
def prO (p : Pt) (k : Nat) : Int := if k = 0 then 0 else p.O (k - 1)
theorem prO_succ (p : Pt) (k : Nat) : prO p (k + 1) = p.O k := by simp [prO]
def vkB (p : Pt) (k : Nat) : Bool := decide (prO p k ≤ p.I k) && (decide (p.I k < p.O k) && decide (p.O k ≤ 2000))
theorem vkB_true {p : Pt} {k : Nat} : vkB p k = true ↔ prO p k ≤ p.I k ∧ p.I k < p.O k ∧ p.O k ≤ 2000 := by simp [vkB]
def ptOk (p : Pt) (n : Int) : Bool := inB n 1 5 && (decide ((p.ni : Int) = n) && (decide ((p.no : Int) = n) && allB p.ni (vkB p)))
theorem ptOk_n {p : Pt} {n : Int} (h : inB n 1 5 = false) : ptOk p n = false := by simp [ptOk, h]
theorem ptOk_i {p : Pt} {n : Int} (h : ¬ (p.ni : Int) = n) : ptOk p n = false := by simp [ptOk, h]
theorem ptOk_o {p : Pt} {n : Int} (h : ¬ (p.no : Int) = n) : ptOk p n = false := by simp [ptOk, h]
theorem ptOk_k {p : Pt} {n : Int} {k : Nat} (hk : k < p.ni) (h : vkB p k = false) : ptOk p n = false := by simp [ptOk, allB_not hk h]
theorem ptOk_yes {p : Pt} {n : Int} (h : inB n 1 5 = true) (h1 : (p.ni : Int) = n) (h2 : (p.no : Int) = n) (h3 : ∀ k, k < p.ni → vkB p k = true) : ptOk p n = true := by
 simp [ptOk, h, h1, h2, allB_of h3]
theorem ptOk_parts {p : Pt} {n : Int} (h : ptOk p n = true) : (1 ≤ n ∧ n ≤ 5) ∧ (p.ni : Int) = n ∧ (p.no : Int) = n ∧ ∀ k, k < p.ni → vkB p k = true := by
 simp only [ptOk, Bool.and_eq_true, decide_eq_true_eq] at h
 exact ⟨inB_true.1 h.1, h.2.1, h.2.2.1, allB_true.1 h.2.2.2⟩
theorem vk_bd {p : Pt} : ∀ k, (∀ j, j < k → vkB p j = true) → 0 ≤ prO p k ∧ prO p k ≤ 2000
  | 0, _ => by simp [prO]
  | k + 1, h => by
   have ih := vk_bd k (fun j hj => h j (by omega))
   have h1 := vkB_true.1 (h k (by omega))
   rw [prO_succ]
   omega
theorem sectionsValidP_any (n : Int) (w : World) (_hn : -9223372036854775808 ≤ n ∧ n ≤ 9223372036854775807) :
    Calls Tryz.prog 42 #[.int .i64 n] w fun e w' => e = .returned (.bool (inB n 1 5)) ∧ w = w' := by
  by_cases h : 1 ≤ n
  ·have g : decide (1 ≤ n) = true := decide_eq_true h
   have H : Hid (inB n 1 5 = decide (n ≤ 5)) := by show _ = _; unfold inB; rw [g]; rfl
   go_enter Tryz.func42, Tryz.ntmps42
   go_wp2
   go_ret
   exact ⟨retB (by rw [H.out]), rfl⟩
  ·have g : decide (1 ≤ n) = false := decide_eq_false h
   have H : Hid (inB n 1 5 = false) := by show _ = _; unfold inB; rw [g]; rfl
   go_enter Tryz.func42, Tryz.ntmps42
   go_wp2
   go_ret
   exact ⟨retB (by rw [H.out]), rfl⟩
structure PtB (w : World) (b : Nat) (p : Pt) (bi oi ci bo oo co : Nat) : Prop where
  c0 : w.cell? ⟨b, 0, none⟩ = some (.slice (some ⟨bi, oi, none⟩) p.ni ci)
  c1 : w.cell? ⟨b, 1, none⟩ = some (.slice (some ⟨bo, oo, none⟩) p.no co)
  I : IC w bi oi p.ni p.I
  O : IC w bo oo p.no p.O
theorem PtB.keep {w w' : World} {b : Nat} {p : Pt} {bi oi ci bo oo co : Nat} (h : PtB w b p bi oi ci bo oo co) (hb : Below w.heap.size w w') : PtB w' b p bi oi ci bo oo co :=
 ⟨by rw [hb.cell (p := ⟨b, 0, none⟩) (World.block_lt_of_cell? w ⟨b, 0, none⟩ h.c0)]; exact h.c0, by rw [hb.cell (p := ⟨b, 1, none⟩) (World.block_lt_of_cell? w ⟨b, 1, none⟩ h.c1)]; exact h.c1, h.I.keep hb, h.O.keep hb⟩
def Bx (w : World) (b : Nat) (t : TypeId) (cs : Array Value) : Prop := w.heap[b]? = some (.cells cs t (0, 0))
theorem Bx.lt {w : World} {b : Nat} {t : TypeId} {cs : Array Value} (h : Bx w b t cs) : b < w.heap.size := (Array.getElem?_eq_some_iff.1 h).1
theorem Bx.cell {w : World} {b : Nat} {t : TypeId} {cs : Array Value} (h : Bx w b t cs) : ∀ o, w.cell? ⟨b, o, none⟩ = cs[o]? := fun o => by
 unfold Bx at h
 simp only [World.cell?, h]
 rfl
theorem Bx.free {w : World} {b : Nat} {t : TypeId} {cs : Array Value} (h : Bx w b t cs) : ∀ o, w.frozen? ⟨b, o, none⟩ = false := fun o => by
 unfold Bx at h
 simp [World.frozen?, h]
theorem Bx.of_block {w w' : World} {b : Nat} {t : TypeId} {cs : Array Value} (h : Bx w b t cs) (e : w'.heap[b]? = w.heap[b]?) : Bx w' b t cs := e.trans h
theorem Bx.new (w : World) (t : TypeId) (cs : Array Value) : Bx (w.alloc (.cells cs t)) w.heap.size t cs := heap_alloc_new _ _
theorem Bx.newAt {w : World} {b : Nat} {t : TypeId} {cs : Array Value} (h : b = w.heap.size) : Bx (w.alloc (.cells cs t)) b t cs := by subst h; exact heap_alloc_new _ _
theorem Bx.alloc {w : World} {b : Nat} {t : TypeId} {cs : Array Value} (h : Bx w b t cs) (o : Obj) : Bx (w.alloc o) b t cs := h.of_block (Below.heap_alloc _ _ _ h.lt)
theorem Bx.drew {w : World} {b : Nat} {t : TypeId} {cs : Array Value} (h : Bx w b t cs) : Bx w.drew b t cs := h
theorem Bx.kept {w w' : World} {b R : Nat} {t : TypeId} {cs : Array Value} (h : Bx w b t cs) (hb : w.grownBy w' (some R)) (hg : b ≠ R) : Bx w' b t cs := h.of_block (hb.block b h.lt (by simpa using hg))
theorem Bx.below {w w' : World} {b B : Nat} {t : TypeId} {cs : Array Value} (h : Bx w b t cs) (hb : Below B w w') (hg : b < B) : Bx w' b t cs := h.of_block (hb.block b hg)
theorem Bx.set {w : World} {b : Nat} {t : TypeId} {cs : Array Value} (h : Bx w b t cs) (o : Nat) (v : Value) : Bx (w.setCell ⟨b, o, none⟩ v) b t (cs.setIfInBounds o v) := by
 unfold Bx at *
 simp [World.setCell, Array.getElem?_modify, h]
theorem Bx.setOther {w : World} {b : Nat} {t : TypeId} {cs : Array Value} (h : Bx w b t cs) {a : Addr} (ha : b ≠ a.block) (v : Value) : Bx (w.setCell a v) b t cs := h.of_block (Below.heap_setCell _ _ _ _ ha)
end Go.Proofs.YtlkdmpfifpkpaaaGreatDoor

