/-
  Small plain definitions and lemmas on worlds that all the walks of this claim share.
-/
import Derived.Test.YtokddeoliieofaaChecked
import Derived.Test.YtokddeoliieofaaOwn
namespace Go.Proofs.Ytokddeoliieofaa
open Go.RowKit

/-- low ≤ n ≤ high, as a Bool that stays closed. -/
def inB (n lo hi : Int) : Bool := decide (lo ≤ n) && decide (n ≤ hi)
theorem inB_true {n lo hi : Int} : inB n lo hi = true ↔ lo ≤ n ∧ n ≤ hi := by simp [inB]
theorem inB_false {n lo hi : Int} : inB n lo hi = false ↔ ¬ (lo ≤ n ∧ n ≤ hi) := by
  rw [← inB_true]; cases inB n lo hi <;> simp

/-- every k below n meets p -/
def allB (n : Nat) (p : Nat → Bool) : Bool := (List.range n).all p
theorem allB_true {n : Nat} {p : Nat → Bool} : allB n p = true ↔ ∀ k, k < n → p k = true := by simp [allB]
theorem allB_of {n : Nat} {p : Nat → Bool} (h : ∀ k, k < n → p k = true) : allB n p = true := allB_true.2 h
theorem allB_not {n k : Nat} {p : Nat → Bool} (hk : k < n) (h : p k = false) : allB n p = false := by
  cases e : allB n p
  · rfl
  · rw [allB_true.1 e k hk] at h; cases h

/-- the n cells from (b, off) on hold the numbers f 0, f 1, .. -/
def IC (w : World) (b off n : Nat) (f : Nat → Int) : Prop := ∀ k, k < n → w.cell? ⟨b, off + k, none⟩ = some (.int .i64 (f k))
theorem IC.at {w : World} {b off n : Nat} {f : Nat → Int} (h : IC w b off n f) (k : Nat) : k < n → w.cell? ⟨b, off + k, none⟩ = some (.int .i64 (f k)) := h k

theorem IC.keep {w w' : World} {b off n : Nat} {f : Nat → Int} (h : IC w b off n f) (hb : Below w.heap.size w w') : IC w' b off n f := fun k hk => by
  have h1 := h k hk
  have h2 : b < w.heap.size := World.block_lt_of_cell? w ⟨b, off + k, none⟩ h1
  rw [hb.cell (p := ⟨b, off + k, none⟩) h2]; exact h1
theorem IC.drewN {w : World} {b off n : Nat} {f : Nat → Int} (h : IC w b off n f) (q : Nat) : IC (w.drewN q) b off n f := h
theorem IC.of_own {w : World} {g cap n : Nat} {f : Nat → Int} {t : TypeId} (h : Own w g cap n 1 t (fun i => .int .i64 (f i))) : IC w g 0 n f := fun k hk => by
  rw [Nat.zero_add]; exact h.cell1 hk
theorem IC.congr {w : World} {b off n : Nat} {f f' : Nat → Int} (h : IC w b off n f) (e : ∀ k, k < n → f k = f' k) : IC w b off n f' := fun k hk => by rw [h k hk, e k hk]
theorem IC.nil {w : World} {b off : Nat} {f : Nat → Int} : IC w b off 0 f := fun k hk => by omega

/-- only draws lie between -/
def Dr (w w' : World) : Prop := ∃ q, w' = w.drewN q
theorem Dr.refl (w : World) : Dr w w := ⟨0, rfl⟩
theorem Dr.drewN {w w' : World} (h : Dr w w') (q : Nat) : Dr w (w'.drewN q) := by
  obtain ⟨r, rfl⟩ := h
  exact ⟨_, World.drewN_drewN _ _ _⟩
theorem Dr.trans {a b c : World} (h : Dr a b) (h' : Dr b c) : Dr a c := by
  obtain ⟨r, rfl⟩ := h'
  exact h.drewN r

theorem bcell {W w1 : World} (hb : Below W.heap.size W w1) : (∀ b o, b < W.heap.size → w1.cell? ⟨b, o, none⟩ = W.cell? ⟨b, o, none⟩) ∧ (∀ b o, b < W.heap.size → w1.frozen? ⟨b, o, none⟩ = W.frozen? ⟨b, o, none⟩) :=
  ⟨fun b o h => hb.cell (p := ⟨b, o, none⟩) h, fun b o h => hb.frozen (p := ⟨b, o, none⟩) h⟩
theorem bcellN {W w1 : World} (hb : Below W.heap.size W w1) (K : Nat) (hK : K ≤ W.heap.size) : (∀ b o, b < K → w1.cell? ⟨b, o, none⟩ = W.cell? ⟨b, o, none⟩) ∧ (∀ b o, b < K → w1.frozen? ⟨b, o, none⟩ = W.frozen? ⟨b, o, none⟩) :=
  ⟨fun b o h => hb.cell (p := ⟨b, o, none⟩) (Nat.lt_of_lt_of_le h hK), fun b o h => hb.frozen (p := ⟨b, o, none⟩) (Nat.lt_of_lt_of_le h hK)⟩
theorem bcellB {B : Nat} {W w1 : World} (hb : Below B W w1) : (∀ b o, b < B → w1.cell? ⟨b, o, none⟩ = W.cell? ⟨b, o, none⟩) ∧ (∀ b o, b < B → w1.frozen? ⟨b, o, none⟩ = W.frozen? ⟨b, o, none⟩) :=
  ⟨fun b o h => hb.cell (p := ⟨b, o, none⟩) h, fun b o h => hb.frozen (p := ⟨b, o, none⟩) h⟩
/-- the cells of one box, told in a later world -/
theorem box_cells {w w' : World} {cs : Array Value} {t : TypeId} {B : Nat} (hb : Below B (w.alloc (.cells cs t)) w') (hB : w.heap.size < B) : ∀ o, w'.cell? ⟨w.heap.size, o, none⟩ = cs[o]? := fun o => by
  rw [hb.cell (p := ⟨w.heap.size, o, none⟩) hB]
  have hh : (w.alloc (.cells cs t)).heap[w.heap.size]? = some (.cells cs t (0, 0)) := heap_alloc_new _ _
  simp only [World.cell?, hh]
  rfl
theorem box_keep {w w' : World} {b : Nat} {F : Nat → Option Value} (h : ∀ o, w.cell? ⟨b, o, none⟩ = F o) {B : Nat} (hb : Below B w w') (hB : b < B) : ∀ o, w'.cell? ⟨b, o, none⟩ = F o := fun o => by
  rw [hb.cell (p := ⟨b, o, none⟩) hB, h o]
theorem below_dr {w w' : World} (h : Dr w w') (B : Nat) : Below B w w' := by
  obtain ⟨q, rfl⟩ := h
  exact below_drewN (Below.refl _ _) q

theorem elInt : Elem Try.prog 26 3 (.int .i64 0) 1 8 := ⟨Try.underlying26, by kernel_rfl, rfl, by decide⟩

theorem retB {a b : Bool} (h : a = b) : Ending.returned (.bool a) = .returned (.bool b) := by rw [h]
theorem retI {a b : Int} (h : a = b) : Ending.returned (.int .i64 a) = .returned (.int .i64 b) := by rw [h]
end Go.Proofs.Ytokddeoliieofaa
