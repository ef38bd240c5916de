/-
  Parts of the proof of fnExecuteFit_proved: Own Base Rd A Sm Pa Bx Rx Qt Pb Pc Ya. No condition.
-/
import Derived.WalkKit
import Derived.WalkSpells
import Derived.WalkLawsBesides
import Derived.Lib.Hide
import Derived.BigQuiet
import Derived.Deep.QuietTactic
import Derived.Deep.RegionHeld3
import Derived.Deep.DeepFit
import Derived.Test.YtlkdmpfifpkpaaaGreatDoorChecked
import Derived.Laws.BitsAllLaws
import Derived.Deep.RegionWith
import Derived.Deep.DeepCutAuto
namespace Go.Proofs.YtlkdmpfifpkpaaaGreatDoor
open Go.RowKit

/-- block g is a row of the call's own with room for cap elements of s cells; the first n hold f -/
def Own (w : World) (g cap n s : Nat) (t : TypeId) (f : Nat → Value) : Prop :=
  n ≤ cap ∧ cap ≤ maxLen ∧ ∃ cur, w.heap[g]? = some (.cells cur t (0, 0)) ∧ cur.size = cap * s ∧ ∀ i, i < n * s → cur[i]? = some (f i)

theorem Own.lt {w : World} {g cap n s : Nat} {t : TypeId} {f : Nat → Value} (h : Own w g cap n s t f) : g < w.heap.size := by
  obtain ⟨_, _, cur, hg, _⟩ := h
  exact (Array.getElem?_eq_some_iff.1 hg).1
theorem Own.cell {w : World} {g cap n s : Nat} {t : TypeId} {f : Nat → Value} (h : Own w g cap n s t f) {i : Nat} (hi : i < n * s) : w.cell? ⟨g, i, none⟩ = some (f i) := by
  obtain ⟨_, _, cur, hg, _, hc⟩ := h
  simp [World.cell?, hg, hc i hi]
theorem Own.cell1 {w : World} {g cap n : Nat} {t : TypeId} {f : Nat → Value} (h : Own w g cap n 1 t f) {i : Nat} (hi : i < n) : w.cell? ⟨g, i, none⟩ = some (f i) := h.cell (by omega)
theorem Own.free {w : World} {g cap n s : Nat} {t : TypeId} {f : Nat → Value} (h : Own w g cap n s t f) (i : Nat) : w.frozen? ⟨g, i, none⟩ = false := by
  obtain ⟨_, _, cur, hg, _⟩ := h
  simp [World.frozen?, hg]
theorem Own.of_block {w w' : World} {g cap n s : Nat} {t : TypeId} {f : Nat → Value} (h : Own w g cap n s t f) (e : w'.heap[g]? = w.heap[g]?) : Own w' g cap n s t f := by
  obtain ⟨h1, h2, cur, hg, h3, h4⟩ := h
  exact ⟨h1, h2, cur, e.trans hg, h3, h4⟩
theorem Own.congr {w : World} {g cap n s : Nat} {t : TypeId} {f f' : Nat → Value} (h : Own w g cap n s t f) (e : ∀ i, i < n * s → f i = f' i) : Own w g cap n s t f' := by
  obtain ⟨h1, h2, cur, hg, h3, h4⟩ := h
  exact ⟨h1, h2, cur, hg, h3, fun i hi => by rw [h4 i hi, e i hi]⟩
theorem Own.alloc {w : World} {g cap n s : Nat} {t : TypeId} {f : Nat → Value} (h : Own w g cap n s t f) (o : Obj) : Own (w.alloc o) g cap n s t f :=
  h.of_block (Below.heap_alloc _ _ _ h.lt)
theorem Own.drew {w : World} {g cap n s : Nat} {t : TypeId} {f : Nat → Value} (h : Own w g cap n s t f) : Own w.drew g cap n s t f := h
theorem Own.drewN {w : World} {g cap n s : Nat} {t : TypeId} {f : Nat → Value} (h : Own w g cap n s t f) (q : Nat) : Own (w.drewN q) g cap n s t f := h
theorem Own.below {w w' : World} {g cap n s B : Nat} {t : TypeId} {f : Nat → Value} (h : Own w g cap n s t f) (hb : Below B w w') (hg : g < B) : Own w' g cap n s t f := h.of_block (hb.block g hg)
theorem Own.kept {w w' : World} {g cap n s : Nat} {t : TypeId} {f : Nat → Value} (h : Own w g cap n s t f) {row : Option Nat} (hb : w.grownBy w' row) (hg : some g ≠ row) : Own w' g cap n s t f := h.of_block (hb.block g h.lt hg)
theorem Own.setOther {w : World} {g cap n s : Nat} {t : TypeId} {f : Nat → Value} (h : Own w g cap n s t f) {a : Addr} (ha : g ≠ a.block) (v : Value) : Own (w.setCell a v) g cap n s t f :=
  h.of_block (Below.heap_setCell _ _ _ _ ha)
theorem Own.set {w : World} {g cap n s : Nat} {t : TypeId} {f : Nat → Value} (h : Own w g cap n s t f) (i : Nat) (v : Value) : Own (w.setCell ⟨g, i, none⟩ v) g cap n s t (fun j => if j = i then v else f j) := by
  obtain ⟨h1, h2, c, hb, hn, hc⟩ := h
  refine ⟨h1, h2, c.setIfInBounds i v, ?_, by simpa using hn, fun j hj => ?_⟩
  · simp [World.setCell, Array.getElem?_modify, hb]
  · rw [Array.getElem?_setIfInBounds]
    have hj' : j < c.size := (Array.getElem?_eq_some_iff.1 (hc j hj)).1
    by_cases e : j = i
    · subst e
      simp [hj']
    · rw [if_neg (fun h => e h.symm)]
      show c[j]? = some (if j = i then v else f j)
      rw [if_neg e]
      exact hc j hj
/-- fewer elements of the same row -/
theorem Own.less {w : World} {g cap n s m : Nat} {t : TypeId} {f : Nat → Value} (h : Own w g cap n s t f) (hm : m ≤ n) : Own w g cap m s t f := by
  obtain ⟨h1, h2, cur, hg, h3, h4⟩ := h
  exact ⟨by omega, h2, cur, hg, h3, fun i hi => h4 i (Nat.lt_of_lt_of_le hi (Nat.mul_le_mul_right _ hm))⟩
/-- an empty row with room -/
theorem own_made (w : World) (z : Value) (cap s : Nat) (t : TypeId) (f : Nat → Value) (hc : cap ≤ maxLen) : Own (w.alloc (.cells (madeCells #[z] (cap * s)) t)) w.heap.size cap 0 s t f :=
  ⟨Nat.zero_le _, hc, _, heap_alloc_new _ _, size_madeCells _ _, fun i hi => by omega⟩
theorem own_made1 (w : World) (z : Value) (cap : Nat) (t : TypeId) (f : Nat → Value) (hc : cap ≤ maxLen) : Own (w.alloc (.cells (madeCells #[z] cap) t)) w.heap.size cap 0 1 t f := by
  have := own_made w z cap 1 t f hc
  rwa [Nat.mul_one] at this
/-- a row full of zero values -/
theorem own_full1 (w : World) (z : Value) (n : Nat) (t : TypeId) (hc : n ≤ maxLen) : Own (w.alloc (.cells (madeCells #[z] n) t)) w.heap.size n n 1 t (fun _ => z) :=
  ⟨Nat.le_refl _, hc, _, heap_alloc_new _ _, by rw [size_madeCells]; simp, fun i hi => by
    rw [Nat.mul_one] at hi
    simp [madeCells, hi, Nat.mod_one]⟩
theorem own_empty (w : World) (s : Nat) (t : TypeId) (f : Nat → Value) : Own (w.alloc (.cells #[] t)) w.heap.size 0 0 s t f :=
  ⟨Nat.le_refl _, Nat.zero_le _, _, heap_alloc_new _ _, by simp, fun i hi => by omega⟩

theorem grownBy_trans {a b c : World} {row : Option Nat} (h : a.grownBy b row) (k : b.grownBy c row) : a.grownBy c row :=
  ⟨k.os.trans h.os, k.tape.trans h.tape, k.output.trans h.output, Nat.le_trans h.size k.size, fun i hi hr => (k.block i (Nat.lt_of_lt_of_le hi h.size) hr).trans (h.block i hi hr)⟩
theorem grownBy_drewN (w : World) (q : Nat) (row : Option Nat) : w.grownBy (w.drewN q) row := ⟨rfl, rfl, rfl, Nat.le_refl _, fun _ _ _ => rfl⟩
theorem grownBy_below {w w' : World} (h : Below w.heap.size w w') (row : Option Nat) : w.grownBy w' row := ⟨h.os, h.tape, h.output, h.size, fun k hk _ => h.block k hk⟩
theorem grownBy_setCell (w : World) (b o : Nat) (v : Value) : w.grownBy (w.setCell ⟨b, o, none⟩ v) (some b) := ⟨rfl, rfl, rfl, by simp [World.setCell], fun k _ hr => Below.heap_setCell _ _ _ _ (fun e => hr (by rw [e]))⟩
theorem below_of_grown {B : Nat} {w w' : World} {g : Nat} (h : w.grownBy w' (some g)) (hB : B ≤ g) (hw : B ≤ w.heap.size) : Below B w w' :=
  ⟨h.os, h.tape, h.output, h.size, fun k hk => h.block k (by omega) (fun e => by simp at e; omega)⟩

/-- what is known of a slice type t with elements e of s cells and so many bytes -/
structure Elem (P : Program) (t e : TypeId) (z : Value) (s bytes : Nat) : Prop where
  ht : P.underlying t = some (.slice e)
  info : (P.info? e).map (fun i => (i.zero, i.size, i.bytes)) = some (some z, s, bytes)
  zs : z.cells.size = s
  pos : 0 < s

theorem addr_add (b o j : Nat) : (⟨b, o, none⟩ : Addr).add j = ⟨b, o + j, none⟩ := by unfold Addr.add; split <;> simp_all

/-- append of m elements whose cells lie at ad onto an own row: f tells the whole -/
theorem run_app {P : Program} (w : World) {t e : TypeId} {z : Value} {s bytes : Nat} (he : Elem P t e z s bytes) (ty : TypeId) {g cap n : Nat} {f : Nat → Value} (hown : Own w g cap n s e f)
    (ad : Addr) (m c : Nat) (hnew : ∀ j, j < m * s → w.cell? (ad.add j) = some (f (n * s + j))) (h1 : ∀ j, j < m * s → (f (n * s + j)).oneCell' = true)
    (h63 : n + m ≤ maxLen) (hbytes : (n + m) * bytes ≤ 140737488355328) :
    ∃ g' cap' w', (Builtin.append_ #[t, t] ty #[.slice (some ⟨g, 0, none⟩) n cap, .slice (some ad) m c]).run P w = .ok (.slice (some ⟨g', 0, none⟩) (n + m) cap') w' ∧
      Own w' g' cap' (n + m) s e f ∧ w.grownBy w' (some g) ∧ ((g' = g ∧ cap' = cap) ∨ w.heap.size ≤ g') := by
  obtain ⟨i, hi, hz, hsz, hby⟩ := info_parts he.info
  obtain ⟨hnc, hcm, cur, hg, hcs, hcur⟩ := hown
  subst hsz
  subst hby
  have hlen : ∀ k, ((List.range (m * i.size)).map (fun j => f (n * i.size + j)))[k]? = if k < m * i.size then some (f (n * i.size + k)) else none := by
    intro k
    by_cases hk : k < m * i.size <;> simp [hk]
  have hnews : ∀ j u, ((List.range (m * i.size)).map (fun j => f (n * i.size + j)))[j]? = some u → w.cell? (ad.add j) = some u := by
    intro j u hj
    rw [hlen] at hj
    split at hj
    · rename_i hlt; cases hj; exact hnew j hlt
    · cases hj
  have hone : ∀ u ∈ (List.range (m * i.size)).map (fun j => f (n * i.size + j)), u.oneCell' = true := by
    intro u hu
    obtain ⟨j, hj, rfl⟩ := List.mem_map.1 hu
    exact h1 j (List.mem_range.1 hj)
  have hfull : ∀ k, k < (n + m) * i.size → k < n * i.size ∨ k - n * i.size < m * i.size := by
    intro k hk
    rw [Nat.add_mul] at hk
    omega
  by_cases hroom : n + m ≤ cap
  · have hfit : n * i.size + ((List.range (m * i.size)).map (fun j => f (n * i.size + j))).length ≤ cur.size := by
      simp only [List.length_map, List.length_range]
      rw [hcs, ← Nat.add_mul]
      exact Nat.mul_le_mul_right _ hroom
    have hr := run_append_room (P := P) w t ty e i he.ht hi g n cap cur hg ad m c _ (by simp) hnews hone hroom hfit
    refine ⟨g, cap, _, hr, ⟨hroom, hcm, _, setRow_heap w g cur _ e _ hg, ?_, ?_⟩, ⟨rfl, rfl, rfl, by simp, fun k _ hk => setRow_other w g k _ (fun e => hk (by simp [e]))⟩, .inl ⟨rfl, rfl⟩⟩
    · simp only [List.size_toArray, List.length_append, List.length_take, List.length_drop, Array.length_toList, List.length_map, List.length_range] at hfit ⊢
      omega
    · intro k hk
      have hn : n * i.size ≤ cur.size := by simp only [List.length_map, List.length_range] at hfit; omega
      simp only [List.getElem?_toArray]
      rw [List.append_assoc]
      rcases hfull k hk with h | h
      · rw [List.getElem?_append_left (by simp; omega), List.getElem?_take, if_pos h]
        simpa using hcur k h
      · by_cases h0 : k < n * i.size
        · rw [List.getElem?_append_left (by simp; omega), List.getElem?_take, if_pos h0]
          simpa using hcur k h0
        · have e1 : (List.take (n * i.size) cur.toList).length = n * i.size := by simp; omega
          rw [List.getElem?_append_right (by omega), e1, List.getElem?_append_left (by simp; omega), hlen, if_pos h]
          congr 2
          omega
  · have hcur' : ∀ j, j < n * i.size → j < cur.size := fun j hj => (Array.getElem?_eq_some_iff.1 (hcur j hj)).1
    have holds : ∀ j v, ((List.range (n * i.size)).map f)[j]? = some v → w.cell? ((⟨g, 0, none⟩ : Addr).add j) = some v := by
      intro j v hj
      have hlt : j < n * i.size := by
        rcases Nat.lt_or_ge j (n * i.size) with h | h
        · exact h
        · simp [h] at hj
      simp [hlt] at hj
      subst hj
      rw [addr_add, Nat.zero_add]
      simp [World.cell?, hg, hcur j hlt]
    have hr := run_append_grow (P := P) w t ty e i z he.ht hi hz ⟨g, 0, none⟩ n cap ((List.range (n * i.size)).map f) (by simp) holds ad m c _ (by simp) hnews (by omega) (by simp only [maxLen] at h63; omega) (growslice_fits (by omega) hbytes)
    have hge := grownCap_ge w (n + m) cap e
    refine ⟨w.heap.size, _, _, hr, ⟨hge, grownCap_le_maxLen w (n + m) cap e h63, _, heap_alloc_new w.drew _, ?_, ?_⟩, ⟨rfl, rfl, rfl, by simp, fun k hk _ => Below.heap_alloc w.drew _ k hk⟩, .inr (Nat.le_refl _)⟩
    · simp only [Array.size_append, List.size_toArray, size_zeroCells, he.zs, List.length_map, List.length_range, ← Nat.add_mul]
      congr 1
      omega
    · intro k hk
      have e2 : (n + m) * i.size = n * i.size + m * i.size := Nat.add_mul _ _ _
      rw [Array.append_assoc]
      by_cases h0 : k < n * i.size
      · rw [Array.getElem?_append_left (by simpa using h0)]
        simp [h0]
      · rw [Array.getElem?_append_right (by simp; omega), Array.getElem?_append_left (by simp; omega)]
        simp only [List.size_toArray, List.length_map, List.length_range, List.getElem?_toArray]
        rw [hlen, if_pos (by omega)]
        congr 2
        omega

/-- the same as a law for the walk: the source's cells lie where they lie -/
theorem wpList_app {P : Program} {w : World} {t e : TypeId} {z : Value} {s bytes : Nat} (he : Elem P t e z s bytes) {ops : Array Oper} {rest : List Oper} {o : Oper} {a : Act} {Q : Exit → Act → World → Prop} (hgd : o.guard = none) (so xo : Operand)
    (ho : o.op = .call { callee := .builtin .append, args := #[so, xo], argTypes := #[t, t] }) {g cap n : Nat} {f : Nat → Value} (hown : Own w g cap n s e f) (hs : a.eval so = .slice (some ⟨g, 0, none⟩) n cap)
    (ad : Addr) (m c : Nat) (hx : a.eval xo = .slice (some ad) m c) (hnew : ∀ j, j < m * s → w.cell? (ad.add j) = some (f (n * s + j))) (h1 : ∀ j, j < m * s → (f (n * s + j)).oneCell' = true)
    (h63 : n + m ≤ maxLen) (hbytes : (n + m) * bytes ≤ 140737488355328)
    (h : ∀ g' cap' w', Own w' g' cap' (n + m) s e f → w.grownBy w' (some g) → ((g' = g ∧ cap' = cap) ∨ w.heap.size ≤ g') → wpList P ops Q rest (a.put o.dst (.slice (some ⟨g', 0, none⟩) (n + m) cap')) w') : wpList P ops Q (o :: rest) a w := by
  refine wpList_plain hgd fun K hK => ?_
  obtain ⟨g', cap', w', hr, h2, h3, h4⟩ := run_app w he o.type hown ad m c hnew h1 h63 hbytes
  unfold Oper.wp execOp
  simp only [ho, resolve, invoke, builtin, Sem.run_bind, Sem.run_pure, Result.andThen_ok, List.map_toArray, List.map_cons, List.map_nil, hs, hx, hr]
  exact hK _ _ (h g' cap' w' h2 h3 h4)

/-- append of ONE element: the walk has laid it in a new block of its own -/
theorem wpList_push {P : Program} {w : World} {t e : TypeId} {z : Value} {s bytes : Nat} (he : Elem P t e z s bytes) {ops : Array Oper} {rest : List Oper} {o : Oper} {a : Act} {Q : Exit → Act → World → Prop} (hgd : o.guard = none) (so xo : Operand)
    (ho : o.op = .call { callee := .builtin .append, args := #[so, xo], argTypes := #[t, t] }) {g cap n : Nat} {f : Nat → Value} (hown : Own w g cap n s e f) (hs : a.eval so = .slice (some ⟨g, 0, none⟩) n cap)
    (vs : List Value) (hx : a.eval xo = .slice (some ⟨w.heap.size, 0, none⟩) 1 1) (hnew : ∀ j, j < s → vs[j]? = some (f (n * s + j))) (h1 : ∀ j, j < s → (f (n * s + j)).oneCell' = true)
    (h63 : n + 1 ≤ maxLen) (hbytes : (n + 1) * bytes ≤ 140737488355328)
    (h : ∀ g' cap' w', Own w' g' cap' (n + 1) s e f → w.grownBy w' (some g) → ((g' = g ∧ cap' = cap) ∨ w.heap.size < g') → wpList P ops Q rest (a.put o.dst (.slice (some ⟨g', 0, none⟩) (n + 1) cap')) w') : wpList P ops Q (o :: rest) a (w.alloc (.cells vs.toArray e)) := by
  refine wpList_app he hgd so xo ho (hown.alloc _) hs ⟨w.heap.size, 0, none⟩ 1 1 hx (fun j hj => ?_) (fun j hj => h1 j (by omega)) h63 hbytes (fun g' cap' w' h2 h3 h4 => ?_)
  · rw [addr_add, Nat.zero_add]
    have hh : (w.alloc (.cells vs.toArray e)).heap[w.heap.size]? = some (.cells vs.toArray e (0, 0)) := heap_alloc_new _ _
    simp only [World.cell?, hh]
    simpa using hnew j (by omega)
  · refine h g' cap' w' h2 (grownBy_trans (World.grownBy_alloc w _ _) h3) ?_
    rcases h4 with h4 | h4
    · exact .inl h4
    · right
      have : (w.alloc (.cells vs.toArray e)).heap.size = w.heap.size + 1 := by simp
      omega

/-- append of one number -/
theorem wpList_pushI {P : Program} {w : World} {t e : TypeId} (he : Elem P t e (.int .i64 0) 1 8) {ops : Array Oper} {rest : List Oper} {o : Oper} {a : Act} {Q : Exit → Act → World → Prop} (hgd : o.guard = none) (so xo : Operand)
    (ho : o.op = .call { callee := .builtin .append, args := #[so, xo], argTypes := #[t, t] }) {g cap n : Nat} {f : Nat → Int} (hown : Own w g cap n 1 e (fun i => .int .i64 (f i))) (hs : a.eval so = .slice (some ⟨g, 0, none⟩) n cap)
    {q : Int} (hx : a.eval xo = .slice (some ⟨w.heap.size, 0, none⟩) 1 1) (hq : q = f n) (hn : n < 1000000000000)
    (h : ∀ g' cap' w', Own w' g' cap' (n + 1) 1 e (fun i => .int .i64 (f i)) → w.grownBy w' (some g) → ((g' = g ∧ cap' = cap) ∨ w.heap.size < g') → wpList P ops Q rest (a.put o.dst (.slice (some ⟨g', 0, none⟩) (n + 1) cap')) w') : wpList P ops Q (o :: rest) a (w.alloc (.cells #[.int .i64 q] e)) := by
  refine wpList_push he hgd so xo ho hown hs [.int .i64 q] hx (fun j hj => ?_) (fun j hj => rfl) (by unfold maxLen; omega) (by omega) h
  obtain rfl : j = 0 := by omega
  simp [hq]
/-- append of one value of one cell -/
theorem wpList_pushV {P : Program} {w : World} {t e : TypeId} {z : Value} {bytes : Nat} (he : Elem P t e z 1 bytes) {ops : Array Oper} {rest : List Oper} {o : Oper} {a : Act} {Q : Exit → Act → World → Prop} (hgd : o.guard = none) (so xo : Operand)
    (ho : o.op = .call { callee := .builtin .append, args := #[so, xo], argTypes := #[t, t] }) {g cap n : Nat} {f : Nat → Value} (hown : Own w g cap n 1 e f) (hs : a.eval so = .slice (some ⟨g, 0, none⟩) n cap)
    {q : Value} (hx : a.eval xo = .slice (some ⟨w.heap.size, 0, none⟩) 1 1) (hq : q = f n) (hone : q.oneCell' = true) (hn : n < 1000000000000) (hb : bytes ≤ 64)
    (h : ∀ g' cap' w', Own w' g' cap' (n + 1) 1 e f → w.grownBy w' (some g) → ((g' = g ∧ cap' = cap) ∨ w.heap.size < g') → wpList P ops Q rest (a.put o.dst (.slice (some ⟨g', 0, none⟩) (n + 1) cap')) w') : wpList P ops Q (o :: rest) a (w.alloc (.cells #[q] e)) := by
  have hm : (n + 1) * bytes ≤ 1000000000000 * 64 := Nat.mul_le_mul (by omega) hb
  refine wpList_push he hgd so xo ho hown hs [q] hx (fun j hj => ?_) (fun j hj => ?_) (by unfold maxLen; omega) (by omega) h
  · obtain rfl : j = 0 := by omega
    simp [hq]
  · obtain rfl : j = 0 := by omega
    have e1 : n * 1 + 0 = n := by omega
    rw [e1, ← hq]; exact hone

/-- 'make([]T, n, c)' as an equation for every world -/
theorem run_mk {P : Program} {t e : TypeId} {z : Value} {bytes : Nat} {s : Nat} (he : Elem P t e z s bytes) (n c : Nat) (hn : n ≤ c) (hb : bytes * c ≤ 281474976710656) (h63 : c ≤ 9223372036854775807) (w : World) :
    (Instr.makeSlice t (.int .i64 (n : Int)) (.int .i64 (c : Int))).run P w = .ok (.slice (some ⟨w.heap.size, 0, none⟩) n c) (w.alloc (.cells (madeCells z.cells (c * s)) e)) := by
  obtain ⟨i, hi, hz, hsz, hby⟩ := info_parts he.info
  have hb' : (i.bytes : Int) * (c : Int) ≤ 281474976710656 := by
    have h : ((i.bytes * c : Nat) : Int) ≤ 281474976710656 := by rw [hby]; omega
    rwa [Int.natCast_mul] at h
  have hr := run_make (P := P) w t e i z he.ht hi hz .i64 .i64 (n : Int) (c : Int) (by omega) (by omega) hb' (by omega)
  simp only [Int.toNat_natCast, hsz] at hr
  exact hr
/-- 'make([]T, 0, c)' -/
theorem run_mk0 {P : Program} {t e : TypeId} {z : Value} {bytes : Nat} {s : Nat} (he : Elem P t e z s bytes) (c : Nat) (hb : bytes * c ≤ 281474976710656) (h63 : c ≤ 9223372036854775807) (w : World) :
    (Instr.makeSlice t (.int .i64 0) (.int .i64 (c : Int))).run P w = .ok (.slice (some ⟨w.heap.size, 0, none⟩) 0 c) (w.alloc (.cells (madeCells z.cells (c * s)) e)) :=
  run_mk he 0 c (Nat.zero_le _) hb h63 w
end Go.Proofs.YtlkdmpfifpkpaaaGreatDoor
namespace Go.Proofs.YtlkdmpfifpkpaaaGreatDoor
open Go.RowKit

/-- low ≤ n ≤ high, as a Bool that stays closed. -/
def inB (n lo hi : Int) : Bool := decide (lo ≤ n) && decide (n ≤ hi)
theorem inB_true {n lo hi : Int} : inB n lo hi = true ↔ lo ≤ n ∧ n ≤ hi := by simp [inB]
theorem inB_false {n lo hi : Int} : inB n lo hi = false ↔ ¬ (lo ≤ n ∧ n ≤ hi) := by
  rw [← inB_true]; cases inB n lo hi <;> simp

/-- every k below n meets p -/
def allB (n : Nat) (p : Nat → Bool) : Bool := (List.range n).all p
theorem allB_true {n : Nat} {p : Nat → Bool} : allB n p = true ↔ ∀ k, k < n → p k = true := by simp [allB]
theorem allB_of {n : Nat} {p : Nat → Bool} (h : ∀ k, k < n → p k = true) : allB n p = true := allB_true.2 h
theorem allB_not {n k : Nat} {p : Nat → Bool} (hk : k < n) (h : p k = false) : allB n p = false := by
  cases e : allB n p
  · rfl
  · rw [allB_true.1 e k hk] at h; cases h

/-- the n cells from (b, off) on hold the numbers f 0, f 1, .. -/
def IC (w : World) (b off n : Nat) (f : Nat → Int) : Prop := ∀ k, k < n → w.cell? ⟨b, off + k, none⟩ = some (.int .i64 (f k))
theorem IC.at {w : World} {b off n : Nat} {f : Nat → Int} (h : IC w b off n f) (k : Nat) : k < n → w.cell? ⟨b, off + k, none⟩ = some (.int .i64 (f k)) := h k

theorem IC.keep {w w' : World} {b off n : Nat} {f : Nat → Int} (h : IC w b off n f) (hb : Below w.heap.size w w') : IC w' b off n f := fun k hk => by
  have h1 := h k hk
  have h2 : b < w.heap.size := World.block_lt_of_cell? w ⟨b, off + k, none⟩ h1
  rw [hb.cell (p := ⟨b, off + k, none⟩) h2]; exact h1
theorem IC.drewN {w : World} {b off n : Nat} {f : Nat → Int} (h : IC w b off n f) (q : Nat) : IC (w.drewN q) b off n f := h
theorem IC.of_own {w : World} {g cap n : Nat} {f : Nat → Int} {t : TypeId} (h : Own w g cap n 1 t (fun i => .int .i64 (f i))) : IC w g 0 n f := fun k hk => by
  rw [Nat.zero_add]; exact h.cell1 hk
theorem IC.congr {w : World} {b off n : Nat} {f f' : Nat → Int} (h : IC w b off n f) (e : ∀ k, k < n → f k = f' k) : IC w b off n f' := fun k hk => by rw [h k hk, e k hk]
theorem IC.nil {w : World} {b off : Nat} {f : Nat → Int} : IC w b off 0 f := fun k hk => by omega

/-- only draws lie between -/
def Dr (w w' : World) : Prop := ∃ q, w' = w.drewN q
theorem Dr.refl (w : World) : Dr w w := ⟨0, rfl⟩
theorem Dr.drewN {w w' : World} (h : Dr w w') (q : Nat) : Dr w (w'.drewN q) := by
  obtain ⟨r, rfl⟩ := h
  exact ⟨_, World.drewN_drewN _ _ _⟩
theorem Dr.trans {a b c : World} (h : Dr a b) (h' : Dr b c) : Dr a c := by
  obtain ⟨r, rfl⟩ := h'
  exact h.drewN r

/-- the cells of one box, told in a later world -/
theorem box_cells {w w' : World} {cs : Array Value} {t : TypeId} {B : Nat} (hb : Below B (w.alloc (.cells cs t)) w') (hB : w.heap.size < B) : ∀ o, w'.cell? ⟨w.heap.size, o, none⟩ = cs[o]? := fun o => by
  rw [hb.cell (p := ⟨w.heap.size, o, none⟩) hB]
  have hh : (w.alloc (.cells cs t)).heap[w.heap.size]? = some (.cells cs t (0, 0)) := heap_alloc_new _ _
  simp only [World.cell?, hh]
  rfl
theorem box_keep {w w' : World} {b : Nat} {F : Nat → Option Value} (h : ∀ o, w.cell? ⟨b, o, none⟩ = F o) {B : Nat} (hb : Below B w w') (hB : b < B) : ∀ o, w'.cell? ⟨b, o, none⟩ = F o := fun o => by
  rw [hb.cell (p := ⟨b, o, none⟩) hB, h o]
theorem below_dr {w w' : World} (h : Dr w w') (B : Nat) : Below B w w' := by
  obtain ⟨q, rfl⟩ := h
  exact below_drewN (Below.refl _ _) q

theorem elInt : Elem Tryz.prog 29 3 (.int .i64 0) 1 8 := ⟨Tryz.underlying29, by kernel_rfl, rfl, by decide⟩

theorem retB {a b : Bool} (h : a = b) : Ending.returned (.bool a) = .returned (.bool b) := by rw [h]
theorem retI {a b : Int} (h : a = b) : Ending.returned (.int .i64 a) = .returned (.int .i64 b) := by rw [h]
end Go.Proofs.YtlkdmpfifpkpaaaGreatDoor
namespace Go.Proofs.YtlkdmpfifpkpaaaGreatDoor
open Go.RowKit

theorem xor_pos (x y : Int) (hx : 0 ≤ x ∧ x ≤ 9223372036854775807) (hy : 0 ≤ y ∧ y ≤ 9223372036854775807) : 0 ≤ bits .xor .i64 x y ∧ bits .xor .i64 x y ≤ 9223372036854775807 := by
  obtain ⟨a, rfl⟩ := Int.eq_ofNat_of_zero_le hx.1
  obtain ⟨b, rfl⟩ := Int.eq_ofNat_of_zero_le hy.1
  have h1 : (BitVec.ofInt 64 (a : Int)).toNat = a := by
    rw [BitVec.ofInt_natCast, BitVec.toNat_ofNat]
    exact Nat.mod_eq_of_lt (by omega)
  have h2 : (BitVec.ofInt 64 (b : Int)).toNat = b := by
    rw [BitVec.ofInt_natCast, BitVec.toNat_ofNat]
    exact Nat.mod_eq_of_lt (by omega)
  have h3 : a ^^^ b < 2 ^ 63 := Nat.xor_lt_two_pow (by omega) (by omega)
  have h4 : bits .xor .i64 (a : Int) (b : Int) = IntKind.i64.wrap ((a ^^^ b : Nat) : Int) := by
    show IntKind.i64.wrap ((BitVec.ofInt 64 (a : Int) ^^^ BitVec.ofInt 64 (b : Int)).toNat : Int) = _
    rw [BitVec.toNat_xor, h1, h2]
  rw [h4, IntWalk.i64_in _ (by omega)]
  omega

/-- a slice of bytes that is read -/
def BSl (w : World) (ao : Option Addr) (n : Nat) : Prop := n = 0 ∨ ∃ (b o : Nat) (f : Nat → Int), ao = some ⟨b, o, none⟩ ∧ ∀ k, k < n → w.cell? ⟨b, o + k, none⟩ = some (.int .u8 (f k)) ∧ 0 ≤ f k ∧ f k ≤ (255 : Int)
theorem BSl.less {w : World} {ao : Option Addr} {n m : Nat} (h : BSl w ao n) (hm : m ≤ n) : BSl w ao m := by
  rcases h with h | ⟨b, o, f, e, h⟩
  · exact .inl (by omega)
  · exact .inr ⟨b, o, f, e, fun k hk => h k (by omega)⟩
theorem BSl.keep {w w' : World} {ao : Option Addr} {n : Nat} (h : BSl w ao n) (hb : Below w.heap.size w w') : BSl w' ao n := by
  rcases h with h | ⟨b, o, f, e, h⟩
  · exact .inl h
  · refine .inr ⟨b, o, f, e, fun k hk => ?_⟩
    have h1 := h k hk
    have h2 : b < w.heap.size := World.block_lt_of_cell? w ⟨b, o + k, none⟩ h1.1
    exact ⟨by rw [hb.cell (p := ⟨b, o + k, none⟩) h2]; exact h1.1, h1.2⟩

/-- block R is a reader of which at most m numbers have been picked -/
def RdL (w : World) (R m : Nat) : Prop :=
  ∃ ao n c p, p ≤ m ∧ n ≤ 2000 ∧ w.heap[R]? = some (.cells #[.slice ao n c, .int .i64 ((p : Nat) : Int)] 83 (0, 0)) ∧
    (n = 0 ∨ ∃ (b o : Nat) (f : Nat → Int), ao = some ⟨b, o, none⟩ ∧ b < R ∧ ∀ k, k < n → w.cell? ⟨b, o + k, none⟩ = some (.int .u8 (f k)) ∧ 0 ≤ f k ∧ f k ≤ (255 : Int))
theorem RdL.lt {w : World} {R m : Nat} (h : RdL w R m) : R < w.heap.size := by
  obtain ⟨_, _, _, _, _, _, hg, _⟩ := h
  exact (Array.getElem?_eq_some_iff.1 hg).1
theorem RdL.mono {w : World} {R m m' : Nat} (h : RdL w R m) (hm : m ≤ m') : RdL w R m' := by
  obtain ⟨ao, n, c, p, h1, h2⟩ := h
  exact ⟨ao, n, c, p, by omega, h2⟩
theorem RdL.keep {w w' : World} {R m : Nat} (h : RdL w R m) (hb : Below w.heap.size w w') : RdL w' R m := by
  have hl := h.lt
  obtain ⟨ao, n, c, p, h1, h2, h3, h4⟩ := h
  refine ⟨ao, n, c, p, h1, h2, (hb.block R hl).trans h3, ?_⟩
  rcases h4 with h4 | ⟨b, o, f, e, hne, h4⟩
  · exact .inl h4
  · refine .inr ⟨b, o, f, e, hne, fun k hk => ?_⟩
    have g1 := h4 k hk
    have g2 : b < w.heap.size := World.block_lt_of_cell? w ⟨b, o + k, none⟩ g1.1
    exact ⟨by rw [hb.cell (p := ⟨b, o + k, none⟩) g2]; exact g1.1, g1.2⟩
theorem RdL.kept {w w' : World} {R m : Nat} {g : Nat} (h : RdL w R m) (hb : w.grownBy w' (some g)) (hg : R < g) : RdL w' R m := by
  have hl := h.lt
  obtain ⟨ao, n, c, p, h1, h2, h3, h4⟩ := h
  have key : ∀ b, b ≤ R → w'.heap[b]? = w.heap[b]? := fun b hbR => hb.block b (by omega) (by simp; omega)
  refine ⟨ao, n, c, p, h1, h2, (key R (Nat.le_refl _)).trans h3, ?_⟩
  rcases h4 with h4 | ⟨b, o, f, e, hne, h4⟩
  · exact .inl h4
  · exact .inr ⟨b, o, f, e, hne, fun k hk => ⟨(World.cell?_of_block (w := w) (key b (by omega))).trans (h4 k hk).1, (h4 k hk).2⟩⟩

/-- what a pick below n gives -/
def pkB (n v : Int) : Prop := (1 ≤ n → 0 ≤ v ∧ v < n) ∧ (n < 1 → v = 0)
theorem pkB_lt {n v : Int} (h : pkB n v) (hn : 1 ≤ n) : 0 ≤ v ∧ v < n := h.1 hn
theorem pkB_of {n v : Int} (hn : 1 ≤ n) (h : 0 ≤ v ∧ v < n) : pkB n v := ⟨fun _ => h, fun h' => by omega⟩
theorem pkB_zero {n : Int} : pkB n 0 := ⟨fun h => by omega, fun _ => rfl⟩
theorem pkB_mod {n x : Int} (hn : 1 ≤ n) : pkB n (x % n) := pkB_of hn ⟨Int.emod_nonneg _ (by omega), Int.emod_lt_of_pos _ (by omega)⟩

theorem pkB_tmod {n x : Int} (hn : 1 ≤ n) (hx : 0 ≤ x) : pkB n (x.tmod n) := by rw [Int.tmod_eq_emod_of_nonneg hx]; exact pkB_mod hn

theorem rd_step {w : World} {R m n c p : Nat} {ao : Option Addr} (hp : p ≤ m) (hn : n ≤ 2000) (hg : w.heap[R]? = some (.cells #[.slice ao n c, .int .i64 (p : Int)] 83 (0, 0)))
    (hB : n = 0 ∨ ∃ (b o : Nat) (f : Nat → Int), ao = some ⟨b, o, none⟩ ∧ b < R ∧ ∀ k, k < n → w.cell? ⟨b, o + k, none⟩ = some (.int .u8 (f k)) ∧ 0 ≤ f k ∧ f k ≤ (255 : Int)) :
    RdL (w.setCell ⟨R, 1, none⟩ (.int .i64 ((p : Int) + 1))) R (m + 1) := by
  refine ⟨ao, n, c, p + 1, by omega, hn, by simp [World.setCell, Array.getElem?_modify, hg], ?_⟩
  rcases hB with h | ⟨b, o, f, e, hne, h⟩
  · exact .inl h
  · refine .inr ⟨b, o, f, e, hne, fun k hk => ⟨?_, (h k hk).2⟩⟩
    rw [← (h k hk).1]
    exact World.cell?_of_block (w := w) (Below.heap_setCell _ _ _ _ (by dsimp only; omega))

set_option maxHeartbeats 1000000 in
theorem pick_any (R m : Nat) (n : Int) (w : World) (hn : -9223372036854775808 ≤ n ∧ n ≤ 9223372036854775807) (hm : m ≤ 1000000) (hr : RdL w R m) :
    Calls Tryz.prog 31 #[.pointer (some ⟨R, 0, none⟩), .int .i64 n] w fun e w' => ∃ v : Int, e = .returned (.int .i64 v) ∧ pkB n v ∧ RdL w' R (m + 1) ∧ w.grownBy w' (some R) := by
  obtain ⟨ao, k, c, p, hp, hk, hg, hB⟩ := hr
  have HS := Lib.hid (rd_step hp hk hg hB)
  have HG := Lib.hid (grownBy_setCell w R 1 (.int .i64 ((p : Int) + 1)))
  have c0 : w.cell? ⟨R, 0, none⟩ = some (.slice ao k c) := by simp [World.cell?, hg]
  have c1 : w.cell? ⟨R, 1, none⟩ = some (.int .i64 p) := by simp [World.cell?, hg]
  have hf : ∀ o, w.frozen? ⟨R, o, none⟩ = false := fun o => by simp [World.frozen?, hg]
  obtain ⟨hn0, hn1⟩ := hn
  clear hg
  by_cases h1 : n < 1
  · clear hB
    go_enter Tryz.func31, Tryz.ntmps31
    go_wp2
    all_goals
      go_ret
      exact ⟨_, rfl, by first | exact pkB_zero | exact pkB_mod (by omega), HS.out, HG.out⟩
  · by_cases h2 : k = 0
    · subst h2
      clear hB
      go_enter Tryz.func31, Tryz.ntmps31
      go_wp2
      all_goals
        go_ret
        exact ⟨_, rfl, by first | exact pkB_zero | exact pkB_mod (by omega), HS.out, HG.out⟩
    · rcases hB with hB | ⟨b, o, f, rfl, hne, hB⟩
      · exact absurd hB h2
      · have hne' : b ≠ R := by omega
        have hkz : ((k : Int) == 0) = false := by simp; omega
        by_cases h3 : p < k
        · have hb := hB p h3
          obtain ⟨hbc, hb0, hb1⟩ := hb
          clear hB h2
          go_enter Tryz.func31, Tryz.ntmps31
          go_wp2
          all_goals
            go_ret
            exact ⟨_, rfl, by first | exact pkB_zero | exact pkB_mod (by omega), HS.out, HG.out⟩
        · obtain ⟨i, hi⟩ : ∃ i, i = p % k := ⟨_, rfl⟩
          obtain ⟨j, hj⟩ : ∃ j, j = (p * 7 + 3) % k := ⟨_, rfl⟩
          obtain ⟨d, hd⟩ : ∃ d, d = p / k := ⟨_, rfl⟩
          have q1 : i < k := by rw [hi]; exact Nat.mod_lt _ (by omega)
          have q2 : j < k := by rw [hj]; exact Nat.mod_lt _ (by omega)
          have q3 : d ≤ p := by rw [hd]; exact Nat.div_le_self _ _
          have m1 : ((p : Int) % (k : Int)) = (i : Int) := by rw [hi]; rfl
          have m2 : (((p : Int) * 7 + 3) % (k : Int)) = (j : Int) := by rw [hj]; rfl
          have m3 : ((p : Int) / (k : Int)) = (d : Int) := by rw [hd]; rfl
          have hb := hB i q1
          have hb' := hB j q2
          clear hi hj hd
          obtain ⟨hbc, hb0, hb1⟩ := hb
          obtain ⟨hbc', hb0', hb1'⟩ := hb'
          clear hB h2
          go_enter Tryz.func31, Tryz.ntmps31
          go_wp2
          go_quiet (fail)
          go_wp2
          go_ret
          exact ⟨_, rfl, pkB_tmod (by omega) (xor_pos _ _ ⟨by omega, by omega⟩ ⟨by omega, by omega⟩).1, HS.out.keep (below_drewN (Below.refl _ _) _), grownBy_trans HG.out (grownBy_drewN _ _ _)⟩
end Go.Proofs.YtlkdmpfifpkpaaaGreatDoor
namespace Go.Proofs.YtlkdmpfifpkpaaaGreatDoor
open Go.RowKit

theorem l6In_any (n lo hi : Int) (w : World) :
    Calls Tryz.prog 43 #[.int .i64 n, .int .i64 lo, .int .i64 hi] w fun e w' => e = .returned (.bool (inB n lo hi)) ∧ w = w' := by
  go_enter Tryz.func43, Tryz.ntmps43
  go_wp2
  all_goals go_ret
  all_goals exact ⟨retB (by simp only [inB]; simp; omega), rfl⟩

/-- eqIntS: two slices agree -/
def eqB (f g : Nat → Int) (k : Nat) : Bool := f k == g k
def eqSl (n n' : Nat) (f g : Nat → Int) : Bool := decide (n = n') && allB n (eqB f g)
theorem eqSl_true {n n' : Nat} {f g : Nat → Int} : eqSl n n' f g = true ↔ n = n' ∧ ∀ k, k < n → f k = g k := by
  simp [eqSl, allB_true, eqB]
theorem eqSl_ne {n n' : Nat} {f g : Nat → Int} (h : n ≠ n') : eqSl n n' f g = false := by simp [eqSl, h]
theorem eqSl_at {n k : Nat} {f g : Nat → Int} (hk : k < n) (h : f k ≠ g k) : eqSl n n f g = false := by
  unfold eqSl
  rw [allB_not hk (by simp [eqB, h])]
  simp
/-- a slice value that reads as n numbers f; where n is 0 it may be nil -/
def SL (w : World) (v : Value) (n : Nat) (f : Nat → Int) : Prop :=
  (∃ b o c, v = .slice (some ⟨b, o, none⟩) n c ∧ IC w b o n f) ∨ (n = 0 ∧ ∃ ao c, v = .slice ao 0 c)
theorem SL.nil {w : World} {f : Nat → Int} : SL w (.slice none 0 0) 0 f := .inr ⟨rfl, _, _, rfl⟩
theorem SL.keep {w w' : World} {v : Value} {n : Nat} {f : Nat → Int} (h : SL w v n f) (hb : Below w.heap.size w w') : SL w' v n f := by
  rcases h with ⟨b, o, c, e, h⟩ | h
  · exact .inl ⟨b, o, c, e, h.keep hb⟩
  · exact .inr h

theorem SL.shape {w : World} {v : Value} {n : Nat} {f : Nat → Int} (h : SL w v n f) : ∃ ao c, v = .slice ao n c := by
  rcases h with ⟨b, o, c, e, _⟩ | ⟨rfl, ao, c, e⟩
  · exact ⟨_, _, e⟩
  · exact ⟨_, _, e⟩
/-- sums -/
def sumTo (f : Nat → Int) : Nat → Int
  | 0 => 0
  | k + 1 => sumTo f k + f k
end Go.Proofs.YtlkdmpfifpkpaaaGreatDoor
namespace Go.Proofs.YtlkdmpfifpkpaaaGreatDoor
open Go.RowKit

theorem sameInts_any (b off n c b' off' n' c' : Nat) (f g : Nat → Int) (w : World) (hn : n ≤ 1000000000000000) (hn' : n' ≤ 1000000000000000) (hc : IC w b off n f) (hc' : IC w b' off' n' g) :
    Calls Tryz.prog 44 #[.slice (some ⟨b, off, none⟩) n c, .slice (some ⟨b', off', none⟩) n' c'] w fun e w' => e = .returned (.bool (eqSl n n' f g)) ∧ Dr w w' := by
  by_cases hnn : n = n'
  · subst hnn
    go_enter Tryz.func44, Tryz.ntmps44
    go_wp2
    go_loopw [5] (fun i wr => ∃ k : Nat, k ≤ n ∧ i = .int .i64 k ∧ (∀ j, j < k → f j = g j) ∧ Dr w wr) (fun i _ => n - (intOf i).toNat)
    case atStart => exact ⟨0, Nat.zero_le _, rfl, fun j hj => by omega, Dr.refl _⟩
    case round =>
      obtain ⟨k, hk, rfl, hall, q, rfl⟩ := hrel
      have HA := Lib.hid hall
      clear hall
      by_cases hlt : k < n
      · have hck := hc.at k hlt
        have hck' := hc'.at k hlt
        by_cases h1 : f k = g k
        · have HE := Lib.hid h1
          have h2 : (f k != g k) = false := by simp [h1]
          clear h1
          go_wp2
          go_quiet (fail)
          go_wp2
          go_roundw
          case rel => exact ⟨k + 1, by omega, by go_num, fun j hj => by
              by_cases e : j = k
              · rw [e]; exact HE.out
              · exact HA.out j (by omega), (by repeat (first | exact Dr.refl _ | exact ⟨_, rfl⟩ | refine Dr.drewN ?_ _))⟩
          case measure => simp [intOf]; omega
        · have HE := Lib.hid h1
          have h2 : (f k != g k) = true := by simp [h1]
          clear h1
          go_wp2
          go_quiet (fail)
          go_wp2
          go_ret
          exact ⟨retB (eqSl_at hlt HE.out).symm, (by repeat (first | exact Dr.refl _ | exact ⟨_, rfl⟩ | refine Dr.drewN ?_ _))⟩
      · have e : k = n := by omega
        subst e
        go_wp2
        go_ret
        exact ⟨retB (eqSl_true.2 ⟨rfl, HA.out⟩).symm, (by repeat (first | exact Dr.refl _ | exact ⟨_, rfl⟩ | refine Dr.drewN ?_ _))⟩
  · have h2 : ((n : Int) != (n' : Int)) = true := by simp; omega
    have HE := Lib.hid hnn
    clear hnn
    go_enter Tryz.func44, Tryz.ntmps44
    go_wp2
    go_ret
    exact ⟨retB (eqSl_ne HE.out).symm, (by repeat (first | exact Dr.refl _ | exact ⟨_, rfl⟩ | refine Dr.drewN ?_ _))⟩

theorem open_any (ao : Option Addr) (n c : Nat) (w : World) (hn : n ≤ 9223372036854775807) (hnc : n ≤ c) (hB : BSl w ao n) :
    Calls Tryz.prog 30 #[.slice ao n c] w fun e w' => ∃ R, e = .returned (.pointer (some ⟨R, 0, none⟩)) ∧ w.heap.size ≤ R ∧ RdL w' R 0 ∧ Below w.heap.size w w' := by
  have hbb : ∀ a, Below w.heap.size w (w.alloc a) := fun a => (Below.refl _ _).alloc (Nat.le_refl _) _
  have key : ∀ m : Nat, m ≤ n → m ≤ 2000 → RdL (w.alloc (.cells #[.slice ao m c, .int .i64 ((0 : Nat) : Int)] 83)) w.heap.size 0 := fun m hm h2 => by
    refine ⟨ao, m, c, 0, Nat.le_refl _, h2, heap_alloc_new _ _, ?_⟩
    rcases hB.less hm with h | ⟨b, o, f, e, h⟩
    · exact .inl h
    · by_cases h0 : m = 0
      · exact .inl h0
      · have hlt : b < w.heap.size := World.block_lt_of_cell? w ⟨b, o + 0, none⟩ (h 0 (by omega)).1
        refine .inr ⟨b, o, f, e, by omega, fun k hk => ⟨?_, (h k hk).2⟩⟩
        rw [(hbb _).cell (p := ⟨b, o + k, none⟩) hlt]
        exact (h k hk).1
  have K := Lib.hid key
  have HB := Lib.hid hbb
  clear key hbb
  by_cases h2 : n ≤ 2000
  · go_enter Tryz.func30, Tryz.ntmps30
    go_wp2
    go_ret
    exact ⟨_, rfl, Nat.le_refl _, K.out n (Nat.le_refl _) h2, HB.out _⟩
  · go_enter Tryz.func30, Tryz.ntmps30
    go_wp2
    go_ret
    exact ⟨_, rfl, Nat.le_refl _, K.out 2000 (by omega) (by omega), HB.out _⟩
end Go.Proofs.YtlkdmpfifpkpaaaGreatDoor
namespace Go.Proofs.YtlkdmpfifpkpaaaGreatDoor
open Go.RowKit

/-- a path as data -/
structure Pt where
  I : Nat → Int
  ni : Nat
  O : Nat → Int
  no : Nat
/-- the time ahead of place k -/
def prO (p : Pt) (k : Nat) : Int := if k = 0 then 0 else p.O (k - 1)
theorem prO_succ (p : Pt) (k : Nat) : prO p (k + 1) = p.O k := by simp [prO]
def vkB (p : Pt) (k : Nat) : Bool := decide (prO p k ≤ p.I k) && (decide (p.I k < p.O k) && decide (p.O k ≤ 2000))
theorem vkB_true {p : Pt} {k : Nat} : vkB p k = true ↔ prO p k ≤ p.I k ∧ p.I k < p.O k ∧ p.O k ≤ 2000 := by simp [vkB]
theorem vkB_false {p : Pt} {k : Nat} (h : ¬ (prO p k ≤ p.I k ∧ p.I k < p.O k ∧ p.O k ≤ 2000)) : vkB p k = false := by
  cases e : vkB p k
  · rfl
  · exact absurd (vkB_true.1 e) h
def ptOk (p : Pt) (n : Int) : Bool := inB n 1 5 && (decide ((p.ni : Int) = n) && (decide ((p.no : Int) = n) && allB p.ni (vkB p)))
theorem ptOk_n {p : Pt} {n : Int} (h : inB n 1 5 = false) : ptOk p n = false := by simp [ptOk, h]
theorem ptOk_i {p : Pt} {n : Int} (h : ¬ (p.ni : Int) = n) : ptOk p n = false := by simp [ptOk, h]
theorem ptOk_o {p : Pt} {n : Int} (h : ¬ (p.no : Int) = n) : ptOk p n = false := by simp [ptOk, h]
theorem ptOk_k {p : Pt} {n : Int} {k : Nat} (hk : k < p.ni) (h : vkB p k = false) : ptOk p n = false := by simp [ptOk, allB_not hk h]
theorem ptOk_yes {p : Pt} {n : Int} (h : inB n 1 5 = true) (h1 : (p.ni : Int) = n) (h2 : (p.no : Int) = n) (h3 : ∀ k, k < p.ni → vkB p k = true) : ptOk p n = true := by
  simp [ptOk, h, h1, h2, allB_of h3]
theorem ptOk_parts {p : Pt} {n : Int} (h : ptOk p n = true) : (1 ≤ n ∧ n ≤ 5) ∧ (p.ni : Int) = n ∧ (p.no : Int) = n ∧ ∀ k, k < p.ni → vkB p k = true := by
  simp only [ptOk, Bool.and_eq_true, decide_eq_true_eq] at h
  exact ⟨inB_true.1 h.1, h.2.1, h.2.2.1, allB_true.1 h.2.2.2⟩
/-- all times of a path are in their range -/
theorem vk_bd {p : Pt} : ∀ k, (∀ j, j < k → vkB p j = true) → 0 ≤ prO p k ∧ prO p k ≤ 2000
  | 0, _ => by simp [prO]
  | k + 1, h => by
    have ih := vk_bd k (fun j hj => h j (by omega))
    have h1 := vkB_true.1 (h k (by omega))
    rw [prO_succ]
    omega

theorem sectionsValidP_any (n : Int) (w : World) (_hn : -9223372036854775808 ≤ n ∧ n ≤ 9223372036854775807) :
    Calls Tryz.prog 42 #[.int .i64 n] w fun e w' => e = .returned (.bool (inB n 1 5)) ∧ w = w' := by
  by_cases h : 1 ≤ n
  · have g : decide (1 ≤ n) = true := decide_eq_true h
    have H : Hid (inB n 1 5 = decide (n ≤ 5)) := by show _ = _; unfold inB; rw [g]; rfl
    go_enter Tryz.func42, Tryz.ntmps42
    go_wp2
    go_ret
    exact ⟨retB (by rw [H.out]), rfl⟩
  · have g : decide (1 ≤ n) = false := decide_eq_false h
    have H : Hid (inB n 1 5 = false) := by show _ = _; unfold inB; rw [g]; rfl
    go_enter Tryz.func42, Tryz.ntmps42
    go_wp2
    go_ret
    exact ⟨retB (by rw [H.out]), rfl⟩

/-- the box of a path, and its rows -/
structure PtB (w : World) (b : Nat) (p : Pt) (bi oi ci bo oo co : Nat) : Prop where
  c0 : w.cell? ⟨b, 0, none⟩ = some (.slice (some ⟨bi, oi, none⟩) p.ni ci)
  c1 : w.cell? ⟨b, 1, none⟩ = some (.slice (some ⟨bo, oo, none⟩) p.no co)
  I : IC w bi oi p.ni p.I
  O : IC w bo oo p.no p.O
theorem PtB.drewN {w : World} {b : Nat} {p : Pt} {bi oi ci bo oo co : Nat} (h : PtB w b p bi oi ci bo oo co) (q : Nat) : PtB (w.drewN q) b p bi oi ci bo oo co := ⟨h.c0, h.c1, h.I, h.O⟩
theorem PtB.keep {w w' : World} {b : Nat} {p : Pt} {bi oi ci bo oo co : Nat} (h : PtB w b p bi oi ci bo oo co) (hb : Below w.heap.size w w') : PtB w' b p bi oi ci bo oo co :=
  ⟨by rw [hb.cell (p := ⟨b, 0, none⟩) (World.block_lt_of_cell? w ⟨b, 0, none⟩ h.c0)]; exact h.c0, by rw [hb.cell (p := ⟨b, 1, none⟩) (World.block_lt_of_cell? w ⟨b, 1, none⟩ h.c1)]; exact h.c1, h.I.keep hb, h.O.keep hb⟩

set_option maxHeartbeats 2000000 in
theorem validPt_any (b : Nat) (p : Pt) (n : Int) (bi oi ci bo oo co : Nat) (w : World) (hp : PtB w b p bi oi ci bo oo co) (hni : p.ni ≤ 1000000) (hno : p.no ≤ 1000000) (hn : -9223372036854775808 ≤ n ∧ n ≤ 9223372036854775807) :
    Calls Tryz.prog 47 #[.pointer (some ⟨b, 0, none⟩), .int .i64 n] w fun e w' => e = .returned (.bool (ptOk p n)) ∧ Dr w w' := by
  have HN := Lib.hid hn
  have HP := Lib.hid hp
  have c0 := hp.c0
  have c1 := hp.c1
  clear hp
  cases hin : inB n 1 5
  · have HI := Lib.hid hin
    clear hin
    go_enter Tryz.func47, Tryz.ntmps47
    go_wp2_with fail
    refine (sectionsValidP_any n _ HN.out).mono ?_
    rintro e w' ⟨rfl, rfl⟩
    rw [HI.out]
    go_wp2_with fail
    go_ret
    exact ⟨retB (ptOk_n HI.out).symm, Dr.refl _⟩
  have hin2 := inB_true.1 hin
  have HI := Lib.hid hin
  obtain ⟨n, rfl⟩ := Int.eq_ofNat_of_zero_le (show 0 ≤ n by omega)
  clear hin hn
  by_cases h1 : ¬ p.ni = n
  · have g1 : ((p.ni : Int) != (n : Int)) = true := by simp; omega
    have HR : Hid (ptOk p n = false) := ptOk_i (by omega)
    clear h1
    go_enter Tryz.func47, Tryz.ntmps47
    go_wp2_with fail
    refine (sectionsValidP_any n _ HN.out).mono ?_
    rintro e w' ⟨rfl, rfl⟩
    rw [HI.out]
    go_wp2_with fail
    go_ret
    exact ⟨retB HR.out.symm, Dr.refl _⟩
  replace h1 := Decidable.not_not.1 h1
  by_cases h2 : ¬ p.no = n
  · have g1 : ((p.ni : Int) != (n : Int)) = false := by simp; omega
    have g2 : ((p.no : Int) != (n : Int)) = true := by simp; omega
    have HR : Hid (ptOk p n = false) := ptOk_o (by omega)
    clear h1 h2
    go_enter Tryz.func47, Tryz.ntmps47
    go_wp2_with fail
    refine (sectionsValidP_any n _ HN.out).mono ?_
    rintro e w' ⟨rfl, rfl⟩
    rw [HI.out]
    go_wp2_with fail
    go_ret
    exact ⟨retB HR.out.symm, Dr.refl _⟩
  replace h2 := Decidable.not_not.1 h2
  obtain ⟨I, ni, O, no⟩ := p
  simp only at h1 h2 c0 c1 hni hno
  subst h1
  obtain rfl : ni = no := h2.symm
  have gn : ((ni : Int) != (ni : Int)) = false := by simp
  go_enter Tryz.func47, Tryz.ntmps47
  go_wp2_with fail
  refine (sectionsValidP_any _ _ HN.out).mono ?_
  rintro e w' ⟨rfl, rfl⟩
  rw [HI.out]
  go_wp2_with fail
  go_loopw [5, 29] (fun l i wr => ∃ k : Nat, k ≤ ni ∧ i = .int .i64 k ∧ l = .int .i64 (prO ⟨I, ni, O, ni⟩ k) ∧ Hid (∀ j, j < k → vkB ⟨I, ni, O, ni⟩ j = true) ∧ Dr w wr) (fun _ i _ => ni - (intOf i).toNat)
  case atStart => exact ⟨0, Nat.zero_le _, rfl, rfl, (fun j hj => by omega), Dr.refl _⟩
  case round =>
    obtain ⟨k, hk, rfl, rfl, HA, q, rfl⟩ := hrel
    by_cases hlt : k < ni
    · have hcI := HP.out.I.at k hlt
      have hcO := HP.out.O.at k hlt
      simp only at hcI hcO
      by_cases a1 : I k < prO ⟨I, ni, O, ni⟩ k
      · have HF : Hid (ptOk ⟨I, ni, O, ni⟩ ni = false) := ptOk_k hlt (vkB_false (fun h => by have := h.1; simp only at this; omega))
        have d1 : decide (I k < prO ⟨I, ni, O, ni⟩ k) = true := decide_eq_true a1
        clear a1
        go_wp2_with fail
        go_quiet (fail)
        go_wp2_with fail
        go_ret
        exact ⟨retB HF.out.symm, (by repeat (first | exact Dr.refl _ | exact ⟨_, rfl⟩ | refine Dr.drewN ?_ _))⟩
      have d1 : decide (I k < prO ⟨I, ni, O, ni⟩ k) = false := decide_eq_false a1
      by_cases a2 : O k ≤ I k
      · have HF : Hid (ptOk ⟨I, ni, O, ni⟩ ni = false) := ptOk_k hlt (vkB_false (fun h => by have := h.2.1; simp only at this; omega))
        have d2 : decide (O k ≤ I k) = true := decide_eq_true a2
        clear a2 a1
        go_wp2_with fail
        go_quiet (fail)
        go_wp2_with fail
        go_ret
        exact ⟨retB HF.out.symm, (by repeat (first | exact Dr.refl _ | exact ⟨_, rfl⟩ | refine Dr.drewN ?_ _))⟩
      have d2 : decide (O k ≤ I k) = false := decide_eq_false a2
      by_cases a3 : 2000 < O k
      · have HF : Hid (ptOk ⟨I, ni, O, ni⟩ ni = false) := ptOk_k hlt (vkB_false (fun h => by have := h.2.2; simp only at this; omega))
        have d3 : decide (2000 < O k) = true := decide_eq_true a3
        clear a3 a2 a1
        go_wp2_with fail
        go_quiet (fail)
        go_wp2_with fail
        go_ret
        exact ⟨retB HF.out.symm, (by repeat (first | exact Dr.refl _ | exact ⟨_, rfl⟩ | refine Dr.drewN ?_ _))⟩
      have d3 : decide (2000 < O k) = false := decide_eq_false a3
      have HV : Hid (vkB ⟨I, ni, O, ni⟩ k = true) := vkB_true.2 (by simp only; omega)
      have HA2 : Hid (∀ j, j < k + 1 → vkB ⟨I, ni, O, ni⟩ j = true) := fun j hj => by
        by_cases e : j = k
        · rw [e]; exact HV.out
        · exact HA.out j (by omega)
      have HS : Hid (prO ⟨I, ni, O, ni⟩ (k + 1) = O k) := prO_succ _ _
      clear a1 a2 a3
      go_wp2_with fail
      go_quiet (fail)
      go_wp2_with fail
      go_roundw
      case rel => exact ⟨k + 1, by omega, by go_num, by rw [HS.out], HA2, (by repeat (first | exact Dr.refl _ | exact ⟨_, rfl⟩ | refine Dr.drewN ?_ _))⟩
      case measure => simp [intOf]; omega
    · obtain rfl : k = ni := by omega
      have HT : Hid (ptOk ⟨I, k, O, k⟩ k = true) := ptOk_yes HI.out rfl rfl HA.out
      go_wp2_with fail
      go_ret
      exact ⟨retB HT.out.symm, (by repeat (first | exact Dr.refl _ | exact ⟨_, rfl⟩ | refine Dr.drewN ?_ _))⟩
end Go.Proofs.YtlkdmpfifpkpaaaGreatDoor
namespace Go.Proofs.YtlkdmpfifpkpaaaGreatDoor
open Go.RowKit

/-- block b is a box of type t that holds the cells cs -/
def Bx (w : World) (b : Nat) (t : TypeId) (cs : Array Value) : Prop := w.heap[b]? = some (.cells cs t (0, 0))
theorem Bx.lt {w : World} {b : Nat} {t : TypeId} {cs : Array Value} (h : Bx w b t cs) : b < w.heap.size := (Array.getElem?_eq_some_iff.1 h).1
theorem Bx.cell {w : World} {b : Nat} {t : TypeId} {cs : Array Value} (h : Bx w b t cs) : ∀ o, w.cell? ⟨b, o, none⟩ = cs[o]? := fun o => by
  unfold Bx at h
  simp only [World.cell?, h]
  rfl
theorem Bx.free {w : World} {b : Nat} {t : TypeId} {cs : Array Value} (h : Bx w b t cs) : ∀ o, w.frozen? ⟨b, o, none⟩ = false := fun o => by
  unfold Bx at h
  simp [World.frozen?, h]
theorem Bx.of_block {w w' : World} {b : Nat} {t : TypeId} {cs : Array Value} (h : Bx w b t cs) (e : w'.heap[b]? = w.heap[b]?) : Bx w' b t cs := e.trans h
theorem Bx.new (w : World) (t : TypeId) (cs : Array Value) : Bx (w.alloc (.cells cs t)) w.heap.size t cs := heap_alloc_new _ _
theorem Bx.newAt {w : World} {b : Nat} {t : TypeId} {cs : Array Value} (h : b = w.heap.size) : Bx (w.alloc (.cells cs t)) b t cs := by subst h; exact heap_alloc_new _ _
theorem Bx.alloc {w : World} {b : Nat} {t : TypeId} {cs : Array Value} (h : Bx w b t cs) (o : Obj) : Bx (w.alloc o) b t cs := h.of_block (Below.heap_alloc _ _ _ h.lt)
theorem Bx.drew {w : World} {b : Nat} {t : TypeId} {cs : Array Value} (h : Bx w b t cs) : Bx w.drew b t cs := h
theorem Bx.drewN {w : World} {b : Nat} {t : TypeId} {cs : Array Value} (h : Bx w b t cs) (q : Nat) : Bx (w.drewN q) b t cs := h
theorem Bx.kept {w w' : World} {b R : Nat} {t : TypeId} {cs : Array Value} (h : Bx w b t cs) (hb : w.grownBy w' (some R)) (hg : b ≠ R) : Bx w' b t cs := h.of_block (hb.block b h.lt (by simpa using hg))
theorem Bx.below {w w' : World} {b B : Nat} {t : TypeId} {cs : Array Value} (h : Bx w b t cs) (hb : Below B w w') (hg : b < B) : Bx w' b t cs := h.of_block (hb.block b hg)
theorem Bx.set {w : World} {b : Nat} {t : TypeId} {cs : Array Value} (h : Bx w b t cs) (o : Nat) (v : Value) : Bx (w.setCell ⟨b, o, none⟩ v) b t (cs.setIfInBounds o v) := by
  unfold Bx at *
  simp [World.setCell, Array.getElem?_modify, h]
theorem Bx.setOther {w : World} {b : Nat} {t : TypeId} {cs : Array Value} (h : Bx w b t cs) {a : Addr} (ha : b ≠ a.block) (v : Value) : Bx (w.setCell a v) b t cs := h.of_block (Below.heap_setCell _ _ _ _ ha)
end Go.Proofs.YtlkdmpfifpkpaaaGreatDoor
namespace Go.Proofs.YtlkdmpfifpkpaaaGreatDoor
open Go.RowKit

theorem box_new (w : World) (cs : Array Value) (t : TypeId) : ∀ o, (w.alloc (.cells cs t)).cell? ⟨w.heap.size, o, none⟩ = cs[o]? := box_cells (Below.refl (w.heap.size + 1) _) (by omega)
theorem below_all (w : World) (a : Obj) : Below w.heap.size w (w.alloc a) := (Below.refl _ _).alloc (Nat.le_refl _) _
theorem RdL.alloc {w : World} {R m : Nat} (h : RdL w R m) (a : Obj) : RdL (w.alloc a) R m := h.keep (below_all _ _)
theorem RdL.drew {w : World} {R m : Nat} (h : RdL w R m) : RdL w.drew R m := h
theorem RdL.drewN {w : World} {R m : Nat} (h : RdL w R m) (q : Nat) : RdL (w.drewN q) R m := h
theorem Own.picked {w w' : World} {g cap n s R : Nat} {t : TypeId} {f : Nat → Value} (h : Own w g cap n s t f) (hb : w.grownBy w' (some R)) (hg : g ≠ R) : Own w' g cap n s t f := h.kept hb (by simpa using hg)
theorem grow_new {w wa wb : World} {R g : Nat} (h : w.grownBy wa (some R)) (k : wa.grownBy wb (some g)) (hg : w.heap.size ≤ g) : w.grownBy wb (some R) :=
  ⟨k.os.trans h.os, k.tape.trans h.tape, k.output.trans h.output, Nat.le_trans h.size k.size, fun i hi hr => (k.block i (Nat.lt_of_lt_of_le hi h.size) (by simp; omega)).trans (h.block i hi hr)⟩
theorem gcell {W w1 : World} {R : Nat} (hg : W.grownBy w1 (some R)) : ∀ b o, b < W.heap.size → b ≠ R → w1.cell? ⟨b, o, none⟩ = W.cell? ⟨b, o, none⟩ := fun b o h hne => World.cell?_of_block (w := W) (hg.block b h (by simpa using hne))
theorem pickN_any (R m n : Nat) (w : World) (hn : 1 ≤ n ∧ n ≤ 1000000) (hm : m ≤ 1000000) (hr : RdL w R m) :
    Calls Tryz.prog 31 #[.pointer (some ⟨R, 0, none⟩), .int .i64 n] w fun e w' => ∃ k : Nat, e = .returned (.int .i64 k) ∧ k < n ∧ RdL w' R (m + 1) ∧ w.grownBy w' (some R) :=
  (pick_any R m n w (by omega) hm hr).mono fun e w' ⟨v, he, hv, h1, h2⟩ => by
    have := pkB_lt hv (by omega)
    exact ⟨v.toNat, by rw [he]; congr 2; omega, by omega, h1, h2⟩

theorem own_emptyAt {w : World} {g s : Nat} {t : TypeId} {f : Nat → Value} (h : g = w.heap.size) : Own (w.alloc (.cells #[] t)) g 0 0 s t f := by subst h; exact own_empty _ _ _ _
theorem RdL.set {w : World} {R m g o : Nat} {v : Value} (h : RdL w R m) (hg : R < g) : RdL (w.setCell ⟨g, o, none⟩ v) R m := h.kept (grownBy_setCell _ _ _ _) hg
end Go.Proofs.YtlkdmpfifpkpaaaGreatDoor
namespace Go.Proofs.YtlkdmpfifpkpaaaGreatDoor
open Go.RowKit

theorem qAddS {P : Program} {f : FuncId} {args : Array Value} {w : World} {a n : Nat} {v : Value}
    (h : Calls P f args (w.drewN (a + n)) fun e w' => e = .returned v ∧ w.drewN (a + n) = w') :
    Calls P f args (w.drewN (a + n)) fun e w'' => e = .returned v ∧ ∃ m, w'' = w.drewN (a + m) :=
  h.mono fun _ _ ⟨he, hm⟩ => ⟨he, n, hm.symm⟩
end Go.Proofs.YtlkdmpfifpkpaaaGreatDoor
namespace Go.Proofs.YtlkdmpfifpkpaaaGreatDoor
open Go.RowKit

/-- a path as a value -/
def PtV (w : World) (v : Value) (p : Pt) : Prop :=
  ∃ bi oi ci bo oo co, v = .agg #[.slice (some ⟨bi, oi, none⟩) p.ni ci, .slice (some ⟨bo, oo, none⟩) p.no co] ∧ IC w bi oi p.ni p.I ∧ IC w bo oo p.no p.O
theorem PtV.keep {w w' : World} {v : Value} {p : Pt} (h : PtV w v p) (hb : Below w.heap.size w w') : PtV w' v p := by
  obtain ⟨bi, oi, ci, bo, oo, co, e, h1, h2⟩ := h
  exact ⟨bi, oi, ci, bo, oo, co, e, h1.keep hb, h2.keep hb⟩
theorem PtV.box {w : World} {p : Pt} {bi oi ci bo oo co : Nat} {t : TypeId} (h1 : IC w bi oi p.ni p.I) (h2 : IC w bo oo p.no p.O) :
    PtB (w.alloc (.cells #[.slice (some ⟨bi, oi, none⟩) p.ni ci, .slice (some ⟨bo, oo, none⟩) p.no co] t)) w.heap.size p bi oi ci bo oo co :=
  ⟨box_new w _ t 0, box_new w _ t 1, h1.keep (below_all _ _), h2.keep (below_all _ _)⟩
theorem vk_in {p : Pt} {k : Nat} (h : vkB p k = true) : inB (p.I k) (prO p k) 2000 = true ∧ inB (p.O k) (p.I k + 1) 2000 = true := by
  have := vkB_true.1 h
  exact ⟨inB_true.2 (by omega), inB_true.2 (by omega)⟩
theorem vk_of {p : Pt} {k : Nat} (h1 : inB (p.I k) (prO p k) 2000 = true) (h2 : inB (p.O k) (p.I k + 1) 2000 = true) : vkB p k = true := by
  have h1 := inB_true.1 h1
  have h2 := inB_true.1 h2
  exact vkB_true.2 (by omega)

theorem l6In_at {n lo hi : Int} {b : Bool} (h : inB n lo hi = b) (w : World) : Calls Tryz.prog 43 #[.int .i64 n, .int .i64 lo, .int .i64 hi] w fun e w' => e = .returned (.bool b) ∧ w = w' :=
  (l6In_any n lo hi w).mono fun e w' ⟨h1, h2⟩ => ⟨by rw [h1, h], h2⟩
set_option maxHeartbeats 2000000 in
theorem specPValid_any (v : Value) (p : Pt) (n : Int) (w : World) (hp : PtV w v p) (hni : p.ni ≤ 1000000) (hno : p.no ≤ 1000000) (hn : -9223372036854775808 ≤ n ∧ n ≤ 9223372036854775807) :
    Calls Tryz.prog 49 #[.int .i64 n, v] w fun e w' => e = .returned (.bool (ptOk p n)) ∧ Below w.heap.size w w' := by
  obtain ⟨bi, oi, ci, bo, oo, co, rfl, hI, hO⟩ := hp
  have HP := Lib.hid (PtV.box (ci := ci) (co := co) (t := 41) hI hO)
  have HBB : Hid (∀ o, Below w.heap.size w (w.alloc o)) := fun o => below_all _ _
  clear hI hO
  cases hin : inB n 1 5
  · have HI := Lib.hid hin
    clear hin
    go_enter Tryz.func49, Tryz.ntmps49
    go_wp2_with fail
    refine (l6In_any _ _ _ _).mono ?_
    rintro e w' ⟨rfl, rfl⟩
    rw [HI.out]
    go_wp2_with fail
    go_ret
    exact ⟨retB (ptOk_n HI.out).symm, HBB.out _⟩
  have hin2 := inB_true.1 hin
  have HI := Lib.hid hin
  obtain ⟨n, rfl⟩ := Int.eq_ofNat_of_zero_le (show 0 ≤ n by omega)
  clear hin hn
  by_cases h1 : ¬ p.ni = n
  · have g1 : ((p.ni : Int) != (n : Int)) = true := by simp; omega
    have HR : Hid (ptOk p n = false) := ptOk_i (by omega)
    clear h1
    go_enter Tryz.func49, Tryz.ntmps49
    go_wp2_with fail
    refine (l6In_any _ _ _ _).mono ?_
    rintro e w' ⟨rfl, rfl⟩
    rw [HI.out]
    go_wp2_with fail
    go_ret
    exact ⟨retB HR.out.symm, HBB.out _⟩
  replace h1 := Decidable.not_not.1 h1
  by_cases h2 : ¬ p.no = n
  · have g1 : ((p.ni : Int) != (n : Int)) = false := by simp; omega
    have g2 : ((p.no : Int) != (n : Int)) = true := by simp; omega
    have HR : Hid (ptOk p n = false) := ptOk_o (by omega)
    clear h1 h2
    go_enter Tryz.func49, Tryz.ntmps49
    go_wp2_with fail
    refine (l6In_any _ _ _ _).mono ?_
    rintro e w' ⟨rfl, rfl⟩
    rw [HI.out]
    go_wp2_with fail
    go_ret
    exact ⟨retB HR.out.symm, HBB.out _⟩
  replace h2 := Decidable.not_not.1 h2
  obtain ⟨I, ni, O, no⟩ := p
  simp only at h1 h2 hni hno
  subst h1
  obtain rfl : ni = no := h2.symm
  have gn : ((ni : Int) != (ni : Int)) = false := by simp
  go_enter Tryz.func49, Tryz.ntmps49
  go_wp2_with fail
  refine (l6In_any _ _ _ _).mono ?_
  rintro e w' ⟨rfl, rfl⟩
  rw [HI.out]
  go_wp2_with fail
  go_loopw [5, 6] (fun l i wr => ∃ k : Nat, k ≤ ni ∧ i = .int .i64 k ∧ l = .int .i64 (prO ⟨I, ni, O, ni⟩ k) ∧ Hid (∀ j, j < k → vkB ⟨I, ni, O, ni⟩ j = true) ∧ Dr (w.alloc (.cells #[.slice (some ⟨bi, oi, none⟩) ni ci, .slice (some ⟨bo, oo, none⟩) ni co] 41)) wr) (fun _ i _ => ni - (intOf i).toNat)
  case atStart => exact ⟨0, Nat.zero_le _, rfl, rfl, (fun j hj => by omega), Dr.refl _⟩
  case round =>
    obtain ⟨k, hk, rfl, rfl, HA, q, rfl⟩ := hrel
    by_cases hlt : k < ni
    · have hcI := HP.out.I.at k hlt
      have hcO := HP.out.O.at k hlt
      simp only at hcI hcO
      have hpb := vk_bd k HA.out
      cases b1 : inB (I k) (prO ⟨I, ni, O, ni⟩ k) 2000
      · have HF : Hid (ptOk ⟨I, ni, O, ni⟩ ni = false) := ptOk_k hlt (by cases e : vkB ⟨I, ni, O, ni⟩ k; rfl; exact absurd (vk_in e).1 (by simp [b1]))
        have B1 := Lib.hid b1
        clear b1
        go_wp2_with fail
        go_quiet (first | (go_at_call_of 43 (O k); exact qAddS (l6In_at B1.out _)) | (go_at_call_of 43 (I k); exact qAddS (l6In_at B1.out _)))
        go_wp2_with fail
        go_ret
        exact ⟨retB HF.out.symm, (HBB.out _).trans (below_dr (by repeat (first | exact Dr.refl _ | exact ⟨_, rfl⟩ | refine Dr.drewN ?_ _)) _)⟩
      have hib := inB_true.1 b1
      have hw1 : IntKind.i64.wrap (I k + 1) = I k + 1 := IntWalk.i64_in _ (by omega)
      have B1 := Lib.hid b1
      cases b2 : inB (O k) (I k + 1) 2000
      · have HF : Hid (ptOk ⟨I, ni, O, ni⟩ ni = false) := ptOk_k hlt (by cases e : vkB ⟨I, ni, O, ni⟩ k; rfl; exact absurd (vk_in e).2 (by simp [b2]))
        have B2 := Lib.hid b2
        clear b1 b2
        go_wp2_with fail
        go_quiet (first | (go_at_call_of 43 (O k); exact qAddS (l6In_at B2.out _)) | (go_at_call_of 43 (I k); exact qAddS (l6In_at B1.out _)))
        go_wp2_with fail
        go_ret
        exact ⟨retB HF.out.symm, (HBB.out _).trans (below_dr (by repeat (first | exact Dr.refl _ | exact ⟨_, rfl⟩ | refine Dr.drewN ?_ _)) _)⟩
      have HV : Hid (vkB ⟨I, ni, O, ni⟩ k = true) := vk_of b1 b2
      have HA2 : Hid (∀ j, j < k + 1 → vkB ⟨I, ni, O, ni⟩ j = true) := fun j hj => by
        by_cases e : j = k
        · rw [e]; exact HV.out
        · exact HA.out j (by omega)
      have HS : Hid (prO ⟨I, ni, O, ni⟩ (k + 1) = O k) := prO_succ _ _
      have B2 := Lib.hid b2
      clear b1 b2
      go_wp2_with fail
      go_quiet (first | (go_at_call_of 43 (O k); exact qAddS (l6In_at B2.out _)) | (go_at_call_of 43 (I k); exact qAddS (l6In_at B1.out _)))
      go_wp2_with fail
      go_roundw
      case rel => exact ⟨k + 1, by omega, by go_num, by rw [HS.out], HA2, (by repeat (first | exact Dr.refl _ | exact ⟨_, rfl⟩ | refine Dr.drewN ?_ _))⟩
      case measure => simp [intOf]; omega
    · obtain rfl : k = ni := by omega
      have HT : Hid (ptOk ⟨I, k, O, k⟩ k = true) := ptOk_yes HI.out rfl rfl HA.out
      go_wp2_with fail
      go_ret
      exact ⟨retB HT.out.symm, (HBB.out _).trans (below_dr (by repeat (first | exact Dr.refl _ | exact ⟨_, rfl⟩ | refine Dr.drewN ?_ _)) _)⟩

end Go.Proofs.YtlkdmpfifpkpaaaGreatDoor
namespace Go.Proofs.YtlkdmpfifpkpaaaGreatDoor
open Go.RowKit

def rvK (f : Nat → Int) (k : Nat) : Bool := inB (f k) 1 100
def rvB (m : Int) (n : Nat) (f : Nat → Int) : Bool := inB m 1 5 && (decide ((n : Int) = m) && allB n (rvK f))
theorem rvB_m {m : Int} {n : Nat} {f : Nat → Int} (h : inB m 1 5 = false) : rvB m n f = false := by simp [rvB, h]
theorem rvB_n {m : Int} {n : Nat} {f : Nat → Int} (h : ¬ (n : Int) = m) : rvB m n f = false := by simp [rvB, h]
theorem rvB_k {m : Int} {n k : Nat} {f : Nat → Int} (hk : k < n) (h : rvK f k = false) : rvB m n f = false := by simp [rvB, allB_not hk h]
theorem rvB_yes {m : Int} {n : Nat} {f : Nat → Int} (h : inB m 1 5 = true) (h1 : (n : Int) = m) (h2 : ∀ k, k < n → rvK f k = true) : rvB m n f = true := by simp [rvB, h, h1, allB_of h2]
theorem rvB_parts {m : Int} {n : Nat} {f : Nat → Int} (h : rvB m n f = true) : (1 ≤ m ∧ m ≤ 5) ∧ (n : Int) = m ∧ ∀ k, k < n → 1 ≤ f k ∧ f k ≤ 100 := by
  simp only [rvB, Bool.and_eq_true, decide_eq_true_eq] at h
  exact ⟨inB_true.1 h.1, h.2.1, fun k hk => inB_true.1 (allB_true.1 h.2.2 k hk)⟩

theorem runsValid_any (b off n c : Nat) (f : Nat → Int) (m : Int) (w : World) (hn : n ≤ 1000000) (hc : IC w b off n f) (hm : -9223372036854775808 ≤ m ∧ m ≤ 9223372036854775807) :
    Calls Tryz.prog 46 #[.int .i64 m, .slice (some ⟨b, off, none⟩) n c] w fun e w' => e = .returned (.bool (rvB m n f)) ∧ w = w' := by
  have HM := Lib.hid hm
  have HC := Lib.hid hc
  clear hc
  cases hin : inB m 1 5
  · have HI := Lib.hid hin
    clear hin
    go_enter Tryz.func46, Tryz.ntmps46
    go_wp2_with fail
    refine (sectionsValidP_any m _ HM.out).mono ?_
    rintro e w' ⟨rfl, rfl⟩
    rw [HI.out]
    go_wp2_with fail
    go_ret
    exact ⟨retB (rvB_m HI.out).symm, rfl⟩
  have HI := Lib.hid hin
  clear hin
  by_cases h1 : ¬ (n : Int) = m
  · have HR : Hid (rvB m n f = false) := rvB_n h1
    have g1 : ((n : Int) != m) = true := by simpa using h1
    clear h1
    go_enter Tryz.func46, Tryz.ntmps46
    go_wp2_with fail
    refine (sectionsValidP_any m _ HM.out).mono ?_
    rintro e w' ⟨rfl, rfl⟩
    rw [HI.out]
    go_wp2_with fail
    go_ret
    exact ⟨retB HR.out.symm, rfl⟩
  obtain rfl : m = (n : Int) := (Decidable.not_not.1 h1).symm
  clear h1
  have gn : ((n : Int) != (n : Int)) = false := by simp
  go_enter Tryz.func46, Tryz.ntmps46
  go_wp2_with fail
  refine (sectionsValidP_any _ _ HM.out).mono ?_
  rintro e w' ⟨rfl, rfl⟩
  rw [HI.out]
  go_wp2_with fail
  go_loop [18] (fun i => ∃ k : Nat, k ≤ n ∧ i = .int .i64 k ∧ Hid (∀ j, j < k → rvK f j = true)) (fun i => n - (intOf i).toNat)
  case atStart => exact ⟨0, Nat.zero_le _, rfl, fun j hj => by omega⟩
  case round =>
    obtain ⟨k, hk, rfl, HA⟩ := hrel
    by_cases hlt : k < n
    · have hck := HC.out.at k hlt
      by_cases a1 : f k < 1
      · have HF : Hid (rvB n n f = false) := rvB_k hlt (inB_false.2 (by omega))
        go_wp2_with fail
        go_ret
        exact ⟨retB HF.out.symm, rfl⟩
      by_cases a2 : 100 < f k
      · have HF : Hid (rvB n n f = false) := rvB_k hlt (inB_false.2 (by omega))
        go_wp2_with fail
        go_ret
        exact ⟨retB HF.out.symm, rfl⟩
      have HN : Hid (∀ j, j < k + 1 → rvK f j = true) := fun j hj => by
        by_cases e : j = k
        · rw [e]; exact inB_true.2 (by omega)
        · exact HA.out j (by omega)
      go_wp2_with fail
      go_round
      case rel => exact ⟨k + 1, by omega, by go_num, HN⟩
      case measure => simp [intOf]; omega
    · obtain rfl : k = n := by omega
      have HT : Hid (rvB k k f = true) := rvB_yes HI.out rfl HA.out
      go_wp2_with fail
      go_ret
      exact ⟨retB HT.out.symm, rfl⟩

theorem l2Runs_any (b off n c : Nat) (f : Nat → Int) (m : Int) (w : World) (hn : n ≤ 1000000) (hc : IC w b off n f) :
    Calls Tryz.prog 48 #[.int .i64 m, .slice (some ⟨b, off, none⟩) n c] w fun e w' => e = .returned (.bool (rvB m n f)) ∧ w = w' := by
  have HC := Lib.hid hc
  clear hc
  go_enter Tryz.func48, Tryz.ntmps48
  go_wp2_with fail
  go_loop [5] (fun i => ∃ k : Nat, k ≤ n ∧ i = .int .i64 k ∧ Hid (∀ j, j < k → rvK f j = true)) (fun i => n - (intOf i).toNat)
  case atStart => exact ⟨0, Nat.zero_le _, rfl, fun j hj => by omega⟩
  case round =>
    obtain ⟨k, hk, rfl, HA⟩ := hrel
    by_cases hlt : k < n
    · have hck := HC.out.at k hlt
      cases hr : inB (f k) 1 100
      · have HF : Hid (rvB m n f = false) := rvB_k hlt hr
        have HR := Lib.hid hr
        clear hr
        go_wp2_with fail
        refine (l6In_any _ _ _ _).mono ?_
        rintro e w' ⟨rfl, rfl⟩
        rw [HR.out]
        go_wp2_with fail
        go_ret
        exact ⟨retB HF.out.symm, rfl⟩
      · have HN : Hid (∀ j, j < k + 1 → rvK f j = true) := fun j hj => by
          by_cases e : j = k
          · rw [e]; exact hr
          · exact HA.out j (by omega)
        have HR := Lib.hid hr
        clear hr
        go_wp2_with fail
        refine (l6In_any _ _ _ _).mono ?_
        rintro e w' ⟨rfl, rfl⟩
        rw [HR.out]
        go_wp2_with fail
        go_round
        case rel => exact ⟨k + 1, by omega, by go_num, HN⟩
        case measure => simp [intOf]; omega
    · obtain rfl : k = n := by omega
      by_cases h1 : (k : Int) = m
      · have g1 : ((k : Int) == m) = true := by simp [h1]
        have HE : Hid (rvB m k f = inB m 1 5) := by
          show _ = _
          unfold rvB
          rw [allB_of HA.out, decide_eq_true h1]
          simp
        clear h1
        go_wp2_with fail
        refine (l6In_any _ _ _ _).mono ?_
        rintro e w' ⟨rfl, rfl⟩
        rw [← HE.out]
        go_wp2_with fail
        go_ret
        exact ⟨rfl, rfl⟩
      · have g1 : ((k : Int) == m) = false := by simpa using h1
        have HE : Hid (rvB m k f = false) := rvB_n h1
        clear h1
        go_wp2_with fail
        go_ret
        exact ⟨retB HE.out.symm, rfl⟩

/-- the path without standing -/
def runPt (t : Int) (f : Nat → Int) (n : Nat) : Pt := ⟨fun k => t + sumTo f k, n, fun k => t + sumTo f (k + 1), n⟩
def runOk (t : Int) (f : Nat → Int) (n : Nat) : Bool := rvB n n f && (inB t 0 2000 && ptOk (runPt t f n) n)
/-- what PathRun hands back -/
def PtRes (ok : Bool) (p : Pt) (w : World) (e : Ending) (w' : World) : Prop :=
  ∃ v, e = .returned (.tuple #[v, .bool ok]) ∧ (ok = true → PtV w' v p) ∧ (ok = false → v = .agg #[.slice none 0 0, .slice none 0 0]) ∧ Below w.heap.size w w'
theorem runOk_parts {t : Int} {f : Nat → Int} {n : Nat} (h : runOk t f n = true) : rvB n n f = true ∧ (0 ≤ t ∧ t ≤ 2000) ∧ ptOk (runPt t f n) n = true := by
  simp only [runOk, Bool.and_eq_true] at h
  exact ⟨h.1, inB_true.1 h.2.1, h.2.2⟩
theorem sum_run {n : Nat} {f : Nat → Int} (h : ∀ k, k < n → 1 ≤ f k ∧ f k ≤ 100) : ∀ k, k ≤ n → 0 ≤ sumTo f k ∧ sumTo f k ≤ 100 * k
  | 0, _ => by simp [sumTo]
  | k + 1, hk => by
    have ih := sum_run h k (by omega)
    have := h k (by omega)
    simp only [sumTo]
    omega
/-- the first k places filled, the rest zero -/
def fzF (g : Nat → Int) (k : Nat) (i : Nat) : Value := if i < k then .int .i64 (g i) else .int .i64 0
theorem Own.fz {w : World} {g n k : Nat} {t : TypeId} {f : Nat → Int} {v : Int} (h : Own w g n n 1 t (fzF f k)) (hv : v = f k) : Own (w.setCell ⟨g, k, none⟩ (.int .i64 v)) g n n 1 t (fzF f (k + 1)) := by
  refine (h.set k _).congr fun i _ => ?_
  unfold fzF
  by_cases e : i = k
  · subst e; rw [if_pos rfl, if_pos (by omega), hv]
  · rw [if_neg e]
    by_cases h1 : i < k
    · rw [if_pos h1, if_pos (by omega)]
    · rw [if_neg h1, if_neg (by omega)]
theorem IC.of_fz {w : World} {g n : Nat} {t : TypeId} {f : Nat → Int} (h : Own w g n n 1 t (fzF f n)) : IC w g 0 n f := fun k hk => by
  rw [Nat.zero_add, h.cell1 hk]
  exact congrArg some (if_pos hk)
/-- what the loop keeps -/
structure RunM (w wr : World) (gI gO gP n k : Nat) (I O : Nat → Int) : Prop where
  res : Bx wr w.heap.size 41 #[.slice none 0 0, .slice none 0 0]
  box : Bx wr gP 41 #[.slice (some ⟨gI, 0, none⟩) n n, .slice (some ⟨gO, 0, none⟩) n n]
  oI : Own wr gI n n 1 3 (fzF I k)
  oO : Own wr gO n n 1 3 (fzF O k)
  nIO : gI ≠ gO
  nIP : gI ≠ gP
  nOP : gO ≠ gP
  lI : w.heap.size < gI
  lO : w.heap.size < gO
  lP : w.heap.size < gP
  bl : Below w.heap.size w wr
theorem RunM.step {w wr : World} {gI gO gP n k : Nat} {I O : Nat → Int} {a b : Int} (h : RunM w wr gI gO gP n k I O) (ha : a = I k) (hb : b = O k) : RunM w ((wr.setCell ⟨gI, k, none⟩ (.int .i64 a)).setCell ⟨gO, k, none⟩ (.int .i64 b)) gI gO gP n (k + 1) I O := by
  have h1 := h.lI
  have h2 := h.lO
  have h3 := h.nIO
  have h4 := h.nIP
  have h5 := h.nOP
  exact ⟨(h.res.setOther (by dsimp only; omega) _).setOther (by dsimp only; omega) _, (h.box.setOther (by dsimp only; omega) _).setOther (by dsimp only; omega) _, (h.oI.fz ha).setOther (by dsimp only; omega) _,
    (h.oO.setOther (by dsimp only; omega) _).fz hb, h3, h4, h5, h1, h2, h.lP, (h.bl.setCell (by dsimp only; omega) _).setCell (by dsimp only; omega) _⟩
theorem RunM.below {w wr w' : World} {gI gO gP n k B : Nat} {I O : Nat → Int} (h : RunM w wr gI gO gP n k I O) (hb : Below B wr w') (hB : B = wr.heap.size) : RunM w w' gI gO gP n k I O := by
  subst hB
  exact ⟨h.res.below hb h.res.lt, h.box.below hb h.box.lt, h.oI.below hb h.oI.lt, h.oO.below hb h.oO.lt, h.nIO, h.nIP, h.nOP, h.lI, h.lO, h.lP, h.bl.trans (hb.mono h.bl.size)⟩
theorem RunM.ptb {w wr : World} {gI gO gP n : Nat} {I O : Nat → Int} (h : RunM w wr gI gO gP n n I O) : PtB wr gP ⟨I, n, O, n⟩ gI 0 n gO 0 n := by
  have hc := h.box.cell
  exact ⟨(hc 0).trans rfl, (hc 1).trans rfl, IC.of_fz h.oI, IC.of_fz h.oO⟩
theorem own_fz {w : World} {g n : Nat} {t : TypeId} {f : Nat → Int} (hg : g = w.heap.size) (hn : n ≤ maxLen) : Own (w.alloc (.cells (madeCells #[.int .i64 0] n) t)) g n n 1 t (fzF f 0) := by
  subst hg
  exact (own_full1 w (.int .i64 0) n t hn).congr fun i _ => by unfold fzF; rw [if_neg (by omega)]
/-- the path's box and rows behind the making, in whatever order -/
def RunC (w : World) (n : Nat) (I O : Nat → Int) (s : Value) (wx : World) : Prop := ∃ gI gO gP, s = .pointer (some ⟨gP, 0, none⟩) ∧ RunM w wx gI gO gP n 0 I O
theorem runC_mk {w wx : World} {gI gO gP n : Nat} {I O : Nat → Int} (box : Bx wx gP 41 #[.slice (some ⟨gI, 0, none⟩) n n, .slice (some ⟨gO, 0, none⟩) n n]) (res : Bx wx w.heap.size 41 #[.slice none 0 0, .slice none 0 0])
    (oI : Own wx gI n n 1 3 (fzF I 0)) (oO : Own wx gO n n 1 3 (fzF O 0)) (bl : Below w.heap.size w wx)
    (h : gI ≠ gO ∧ gI ≠ gP ∧ gO ≠ gP ∧ w.heap.size < gI ∧ w.heap.size < gO ∧ w.heap.size < gP) : RunC w n I O (.pointer (some ⟨gP, 0, none⟩)) wx :=
  ⟨gI, gO, gP, rfl, res, box, oI, oO, h.1, h.2.1, h.2.2.1, h.2.2.2.1, h.2.2.2.2.1, h.2.2.2.2.2, bl⟩
set_option maxHeartbeats 2000000 in
theorem implPathRun_any (t : Int) (b off n c : Nat) (f : Nat → Int) (w : World) (hn : n ≤ 1000000) (hc : IC w b off n f) (ht : -9223372036854775808 ≤ t ∧ t ≤ 9223372036854775807) :
    Calls Tryz.prog 23 #[.int .i64 t, .slice (some ⟨b, off, none⟩) n c] w (PtRes (runOk t f n) (runPt t f n) w) := by
  have HC := Lib.hid hc
  have HBB : Hid (∀ o, Below w.heap.size w (w.alloc o)) := fun o => below_all _ _
  clear hc
  cases hr : rvB n n f
  · have HR := Lib.hid hr
    have HK : Hid (runOk t f n = false) := by show _ = _; unfold runOk; rw [hr]; rfl
    clear hr
    go_enter Tryz.func23, Tryz.ntmps23
    go_wp2_with fail
    refine (runsValid_any b off n c f n _ (by omega) (HC.out.keep (HBB.out _)) (by omega)).mono ?_
    rintro e w' ⟨rfl, rfl⟩
    rw [HR.out]
    go_wp2_with fail
    refine bodyPost_ret (v := .tuple #[.agg #[.slice none 0 0, .slice none 0 0], .bool false]) (by simp [results, Tryz.results23, go_sem]) rfl ⟨_, by rw [HK.out], fun h => absurd (HK.out.symm.trans h) (by simp), fun _ => rfl, HBB.out _⟩
  have HR := Lib.hid hr
  by_cases ht1 : t < 0
  · have HK : Hid (runOk t f n = false) := by show _ = _; unfold runOk; rw [inB_false.2 (show ¬ (0 ≤ t ∧ t ≤ 2000) by omega)]; simp
    clear hr
    go_enter Tryz.func23, Tryz.ntmps23
    go_wp2_with fail
    refine (runsValid_any b off n c f n _ (by omega) (HC.out.keep (HBB.out _)) (by omega)).mono ?_
    rintro e w' ⟨rfl, rfl⟩
    rw [HR.out]
    go_wp2_with fail
    refine bodyPost_ret (v := .tuple #[.agg #[.slice none 0 0, .slice none 0 0], .bool false]) (by simp [results, Tryz.results23, go_sem]) rfl ⟨_, by rw [HK.out], fun h => absurd (HK.out.symm.trans h) (by simp), fun _ => rfl, HBB.out _⟩
  by_cases ht2 : 2000 < t
  · have HK : Hid (runOk t f n = false) := by show _ = _; unfold runOk; rw [inB_false.2 (show ¬ (0 ≤ t ∧ t ≤ 2000) by omega)]; simp
    clear hr
    go_enter Tryz.func23, Tryz.ntmps23
    go_wp2_with fail
    refine (runsValid_any b off n c f n _ (by omega) (HC.out.keep (HBB.out _)) (by omega)).mono ?_
    rintro e w' ⟨rfl, rfl⟩
    rw [HR.out]
    go_wp2_with fail
    refine bodyPost_ret (v := .tuple #[.agg #[.slice none 0 0, .slice none 0 0], .bool false]) (by simp [results, Tryz.results23, go_sem]) rfl ⟨_, by rw [HK.out], fun h => absurd (HK.out.symm.trans h) (by simp), fun _ => rfl, HBB.out _⟩
  have hpt := rvB_parts hr
  have hsum := sum_run hpt.2.2
  have HSUM := Lib.hid hsum
  have HF := Lib.hid hpt.2.2
  obtain ⟨⟨hn1, hn2⟩, _, _⟩ := hpt
  have HK : Hid (runOk t f n = ptOk (runPt t f n) n) := by show _ = _; unfold runOk; rw [hr, inB_true.2 (show 0 ≤ t ∧ t ≤ 2000 by omega)]; simp
  clear hr hsum
  have hmk := fun w => run_mk elInt n n (Nat.le_refl _) (by omega) (by omega) w
  go_enter Tryz.func23, Tryz.ntmps23
  go_wp2_with fail
  refine (runsValid_any b off n c f n _ (by omega) (HC.out.keep (HBB.out _)) (by omega)).mono ?_
  rintro e w' ⟨rfl, rfl⟩
  rw [HR.out]
  go_wp2_with fail
  go_cut [7] (fun s7 wx => RunC w n (runPt t f n).I (runPt t f n).O s7 wx)
  case first =>
    go_region_with (fail)
    all_goals
      go_wp2_with fail
      go_meet
      exact runC_mk (by repeat (with_reducible first | (refine Bx.newAt ?_; simp; done) | refine Bx.alloc ?_ _ | refine Bx.drew ?_))
        (by repeat (with_reducible first | exact Bx.new _ _ _ | refine Bx.alloc ?_ _ | refine Bx.drew ?_))
        (by repeat (with_reducible first | (refine own_fz ?_ (by unfold maxLen; omega); simp; done) | refine Own.alloc ?_ _ | refine Own.drew ?_))
        (by repeat (with_reducible first | (refine own_fz ?_ (by unfold maxLen; omega); simp; done) | refine Own.alloc ?_ _ | refine Own.drew ?_))
        (by repeat (with_reducible first | exact Below.refl _ _ | refine Below.alloc ?_ (by simp <;> omega) _ | refine Below.drew ?_))
        (by omega)
  case rest =>
  obtain ⟨gI, gO, gP, rfl, HM⟩ := hcut
  go_wp2_with fail
  go_loopw [8, 34] (fun s i wr => ∃ k : Nat, k ≤ n ∧ i = .int .i64 k ∧ s = .int .i64 (t + sumTo f k) ∧ RunM w wr gI gO gP n k (runPt t f n).I (runPt t f n).O) (fun _ i _ => n - (intOf i).toNat)
  case atStart => exact ⟨0, Nat.zero_le _, rfl, by simp [sumTo], HM⟩
  case round =>
    obtain ⟨k, hk, rfl, rfl, hm⟩ := hrel
    have HMk := Lib.hid hm
    have hpc := hm.box.cell
    have hsk := HSUM.out k hk
    by_cases hlt : k < n
    · have hck := (HC.out.keep hm.bl).at k hlt
      have hfk := HF.out k hlt
      have hiI := hm.oI.cell1 hlt
      have hiO := hm.oO.cell1 hlt
      have hfI := hm.oI.free k
      have hfO := hm.oO.free k
      have n1 := hm.nIO
      have n2 := hm.nIP
      have n3 := hm.nOP
      have n1' : gO ≠ gI := fun e => n1 e.symm
      have n2' : gP ≠ gI := fun e => n2 e.symm
      have n3' : gP ≠ gO := fun e => n3 e.symm
      have HS : Hid (sumTo f (k + 1) = sumTo f k + f k) := rfl
      clear hm
      go_wp2_with fail
      go_roundw
      case rel => exact ⟨k + 1, by omega, by go_num, by rw [HS.out]; go_num, HMk.out.step rfl (by show _ = t + sumTo f (k + 1); rw [HS.out]; omega)⟩
      case measure => simp [intOf]; omega
    · obtain rfl : k = n := by omega
      clear hm
      go_wp2_with fail
      refine (validPt_any gP (runPt t f k) k gI 0 k gO 0 k _ HMk.out.ptb (by show k ≤ _; omega) (by show k ≤ _; omega) (by omega)).mono ?_
      rintro e w2 ⟨rfl, q2, rfl⟩
      rw [← HK.out]
      have hrc := HMk.out.res.cell
      have hrf := HMk.out.res.free
      have HBL := Lib.hid ((HMk.out.below (below_drewN (Below.refl _ _) q2) rfl).bl)
      have HPV : Hid (∀ u v : Value, PtV (((wr.drewN q2).setCell ⟨w.heap.size, 0, none⟩ u).setCell ⟨w.heap.size, 1, none⟩ v) (.agg #[.slice (some ⟨gI, 0, none⟩) k k, .slice (some ⟨gO, 0, none⟩) k k]) (runPt t f k)) := fun u v => by
        have h1 := HMk.out.lI
        have h2 := HMk.out.lO
        exact ⟨gI, 0, k, gO, 0, k, rfl, IC.of_fz (t := 3) (((HMk.out.oI.drewN q2).setOther (by dsimp only; omega) u).setOther (by dsimp only; omega) v), IC.of_fz (t := 3) (((HMk.out.oO.drewN q2).setOther (by dsimp only; omega) u).setOther (by dsimp only; omega) v)⟩
      cases hok : runOk t f k
      · have HO := Lib.hid hok
        clear hok
        go_wp2_with fail
        exact bodyPost_ret (v := .tuple #[.agg #[.slice none 0 0, .slice none 0 0], .bool false]) (by simp [results, Tryz.results23, go_sem, hrc]) rfl ⟨_, by rw [HO.out], fun h => absurd (HO.out.symm.trans h) (by simp), fun _ => rfl, (HBL.out.setCell (by dsimp only; omega) _).setCell (by dsimp only; omega) _⟩
      · have HO := Lib.hid hok
        clear hok
        go_wp2_with fail
        exact bodyPost_ret (v := .tuple #[.agg #[.slice (some ⟨gI, 0, none⟩) k k, .slice (some ⟨gO, 0, none⟩) k k], .bool true]) (by simp [results, Tryz.results23, go_sem, hrc]) rfl ⟨_, by rw [HO.out], fun _ => HPV.out _ _, fun h => absurd (HO.out.symm.trans h) (by simp), (HBL.out.setCell (by dsimp only; omega) _).setCell (by dsimp only; omega) _⟩
end Go.Proofs.YtlkdmpfifpkpaaaGreatDoor
namespace Go.Proofs.YtlkdmpfifpkpaaaGreatDoor
open Go.RowKit

/-- a path behind an address -/
structure PtA (w : World) (b o : Nat) (p : Pt) (bi ci bo co : Nat) : Prop where
  c0 : w.cell? ⟨b, o, none⟩ = some (.slice (some ⟨bi, 0, none⟩) p.ni ci)
  c1 : w.cell? ⟨b, o + 1, none⟩ = some (.slice (some ⟨bo, 0, none⟩) p.no co)
  I : IC w bi 0 p.ni p.I
  O : IC w bo 0 p.no p.O
theorem PtA.keep {w w' : World} {b o : Nat} {p : Pt} {bi ci bo co : Nat} (h : PtA w b o p bi ci bo co) (hb : Below w.heap.size w w') : PtA w' b o p bi ci bo co :=
  ⟨by rw [hb.cell (p := ⟨b, o, none⟩) (World.block_lt_of_cell? w ⟨b, o, none⟩ h.c0)]; exact h.c0, by rw [hb.cell (p := ⟨b, o + 1, none⟩) (World.block_lt_of_cell? w ⟨b, o + 1, none⟩ h.c1)]; exact h.c1, h.I.keep hb, h.O.keep hb⟩
theorem PtA.val {w : World} {b o : Nat} {p : Pt} {bi ci bo co : Nat} (h : PtA w b o p bi ci bo co) : PtV w (.agg #[.slice (some ⟨bi, 0, none⟩) p.ni ci, .slice (some ⟨bo, 0, none⟩) p.no co]) p :=
  ⟨_, _, _, _, _, _, rfl, h.I, h.O⟩
/-- two paths in a section at one time -/
def clB (p q : Pt) (k : Nat) : Bool := decide (p.I k < q.O k) && decide (q.I k < p.O k)
set_option maxRecDepth 100000 in
set_option maxHeartbeats 2000000 in
theorem validA_ok (b o : Nat) (p : Pt) (n : Nat) (bi ci bo co : Nat) (w : World) (hp : PtA w b o p bi ci bo co) (hok : ptOk p n = true) :
    Calls Tryz.prog 47 #[.pointer (some ⟨b, o, none⟩), .int .i64 n] w fun e w' => e = .returned (.bool true) ∧ Dr w w' := by
  obtain ⟨hn, h1, h2, h3⟩ := ptOk_parts hok
  have HP := Lib.hid hp
  have c0 := hp.c0
  have c1 := hp.c1
  have HI : Hid (inB (n : Int) 1 5 = true) := inB_true.2 hn
  have HV := Lib.hid h3
  clear hp hok h3
  obtain ⟨I, ni, O, no⟩ := p
  simp only at h1 h2 c0 c1
  obtain rfl : ni = n := by omega
  obtain rfl : no = ni := by omega
  have gn : ((no : Int) != (no : Int)) = false := by simp
  clear h1 h2
  go_enter Tryz.func47, Tryz.ntmps47
  go_wp2_with fail
  refine (sectionsValidP_any _ _ (by omega)).mono ?_
  rintro e w' ⟨rfl, rfl⟩
  rw [HI.out]
  go_wp2_with fail
  go_loopw [5, 29] (fun l i wr => ∃ k : Nat, k ≤ no ∧ i = .int .i64 k ∧ l = .int .i64 (prO ⟨I, no, O, no⟩ k) ∧ Dr w wr) (fun _ i _ => no - (intOf i).toNat)
  case atStart => exact ⟨0, Nat.zero_le _, rfl, rfl, Dr.refl _⟩
  case round =>
    obtain ⟨k, hk, rfl, rfl, q, rfl⟩ := hrel
    by_cases hlt : k < no
    · have hcI := HP.out.I.at k hlt
      have hcO := HP.out.O.at k hlt
      simp only [Nat.zero_add] at hcI hcO
      have hv := vkB_true.1 (HV.out k hlt)
      simp only at hv
      have d1 : decide (I k < prO ⟨I, no, O, no⟩ k) = false := decide_eq_false (by omega)
      have d2 : decide (O k ≤ I k) = false := decide_eq_false (by omega)
      have d3 : decide (2000 < O k) = false := decide_eq_false (by omega)
      have HS : Hid (prO ⟨I, no, O, no⟩ (k + 1) = O k) := prO_succ _ _
      clear hv
      go_wp2_with fail
      go_quiet (fail)
      go_wp2_with fail
      go_roundw
      case rel => exact ⟨k + 1, by omega, by go_num, by rw [HS.out], (by repeat (first | exact Dr.refl _ | exact ⟨_, rfl⟩ | refine Dr.drewN ?_ _))⟩
      case measure => simp [intOf]; omega
    · obtain rfl : k = no := by omega
      go_wp2_with fail
      go_ret
      exact ⟨rfl, (by repeat (first | exact Dr.refl _ | exact ⟨_, rfl⟩ | refine Dr.drewN ?_ _))⟩
set_option maxRecDepth 100000 in
set_option maxHeartbeats 2000000 in
theorem clashes_any (a b : Nat) (p q : Pt) (k : Nat) (pi po qi qo pj pk ql qm oi oo ri ro : Nat) (w : World) (hp : PtB w a p pi oi pj po oo pk) (hq : PtB w b q qi ri ql qo ro qm) (h1 : k < p.ni) (h2 : k < p.no) (h3 : k < q.ni) (h4 : k < q.no) :
    Calls Tryz.prog 180 #[.pointer (some ⟨a, 0, none⟩), .pointer (some ⟨b, 0, none⟩), .int .i64 k] w fun e w' => e = .returned (.bool (clB p q k)) ∧ Dr w w' := by
  have a0 := hp.c0
  have a1 := hp.c1
  have b0 := hq.c0
  have b1 := hq.c1
  have aI := hp.I.at k h1
  have aO := hp.O.at k h2
  have bI := hq.I.at k h3
  have bO := hq.O.at k h4
  have i1 : (k : Int) < (p.ni : Int) := by omega
  have i2 : (k : Int) < (p.no : Int) := by omega
  have i3 : (k : Int) < (q.ni : Int) := by omega
  have i4 : (k : Int) < (q.no : Int) := by omega
  have HC : Hid (clB p q k = (decide (p.I k < q.O k) && decide (q.I k < p.O k))) := rfl
  clear hp hq
  generalize p.I k = x1 at *
  generalize p.O k = x2 at *
  generalize q.I k = x3 at *
  generalize q.O k = x4 at *
  generalize clB p q k = cb at *
  by_cases d : x1 < x4
  · have e1 : decide (x1 < x4) = true := decide_eq_true d
    have HC2 : Hid (cb = decide (x3 < x2)) := by show _ = _; rw [HC.out, e1]; rfl
    clear HC d
    go_enter Tryz.func180, Tryz.ntmps180
    go_wp2_with fail
    go_quiet (fail)
    go_wp2_with fail
    go_ret
    exact ⟨retB HC2.out.symm, (by repeat (first | exact Dr.refl _ | exact ⟨_, rfl⟩ | refine Dr.drewN ?_ _))⟩
  · have e1 : decide (x1 < x4) = false := decide_eq_false d
    have HC2 : Hid (cb = false) := by show _ = _; rw [HC.out, e1]; rfl
    clear HC d
    go_enter Tryz.func180, Tryz.ntmps180
    go_wp2_with fail
    go_quiet (fail)
    go_wp2_with fail
    go_ret
    exact ⟨retB HC2.out.symm, (by repeat (first | exact Dr.refl _ | exact ⟨_, rfl⟩ | refine Dr.drewN ?_ _))⟩
end Go.Proofs.YtlkdmpfifpkpaaaGreatDoor
