/-
  Rows of the call's own that are written: what stays, and the walks of mark and held.
-/
import Derived.Test.YtnhkijfibiffnaaB
namespace Go.Proofs.Ytnhkijfibiffnaa
open Go.RowKit

/-- all blocks but those of S are as they were -/
structure Frm (S : Nat → Prop) (w w' : World) : Prop where
  os : w'.os = w.os
  tape : w'.tape = w.tape
  output : w'.output = w.output
  size : w.heap.size ≤ w'.heap.size
  block : ∀ k, k < w.heap.size → ¬ S k → w'.heap[k]? = w.heap[k]?
theorem Frm.refl {S : Nat → Prop} (w : World) : Frm S w w := ⟨rfl, rfl, rfl, Nat.le_refl _, fun _ _ _ => rfl⟩
theorem Frm.trans {S : Nat → Prop} {a b c : World} (h : Frm S a b) (k : Frm S b c) : Frm S a c :=
  ⟨k.os.trans h.os, k.tape.trans h.tape, k.output.trans h.output, Nat.le_trans h.size k.size, fun i hi hs => (k.block i (Nat.lt_of_lt_of_le hi h.size) hs).trans (h.block i hi hs)⟩
theorem Frm.mono {S T : Nat → Prop} {w w' : World} (h : Frm S w w') (hs : ∀ k, S k → T k) : Frm T w w' :=
  ⟨h.os, h.tape, h.output, h.size, fun k hk ht => h.block k hk (fun e => ht (hs k e))⟩
theorem Frm.of_below {S : Nat → Prop} {w w' : World} (h : Below w.heap.size w w') : Frm S w w' := ⟨h.os, h.tape, h.output, h.size, fun k hk _ => h.block k hk⟩
theorem Frm.of_grown {w w' : World} {g : Nat} (h : w.grownBy w' (some g)) : Frm (fun k => k = g) w w' := ⟨h.os, h.tape, h.output, h.size, fun k hk hs => h.block k hk (fun e => hs (by simpa using e))⟩
theorem Frm.below {S : Nat → Prop} {w w' : World} {B : Nat} (h : Frm S w w') (hB : B ≤ w.heap.size) (hs : ∀ k, k < B → ¬ S k) : Below B w w' :=
  ⟨h.os, h.tape, h.output, h.size, fun k hk => h.block k (by omega) (hs k hk)⟩
theorem Own.frm {S : Nat → Prop} {w w' : World} {g cap n s : Nat} {t : TypeId} {f : Nat → Value} (h : Own w g cap n s t f) (hf : Frm S w w') (hs : ¬ S g) : Own w' g cap n s t f := h.of_block (hf.block g h.lt hs)
theorem box_frm {S : Nat → Prop} {w w' : World} {b : Nat} {F : Nat → Option Value} (h : ∀ o, w.cell? ⟨b, o, none⟩ = F o) (hf : Frm S w w') (hb : b < w.heap.size) (hs : ¬ S b) : ∀ o, w'.cell? ⟨b, o, none⟩ = F o := fun o => by
  rw [← h o]; exact World.cell?_of_block (w := w) (hf.block b hb hs)

/-- a row of numbers of the call's own in a block from lo to hi, or nil where there are none -/
def OI (lo hi : Nat) (w : World) (v : Value) (n : Nat) (f : Nat → Int) : Prop :=
  (∃ g c, v = .slice (some ⟨g, 0, none⟩) n c ∧ lo ≤ g ∧ g < hi ∧ Own w g c n 1 3 (fun i => .int .i64 (f i))) ∨ (n = 0 ∧ v = .slice none 0 0)
theorem OI.frm {S : Nat → Prop} {lo hi : Nat} {w w' : World} {v : Value} {n : Nat} {f : Nat → Int} (h : OI lo hi w v n f) (hf : Frm S w w') (hs : ∀ k, v.ownBlock = some k → ¬ S k) : OI lo hi w' v n f := by
  rcases h with ⟨g, c, rfl, h1, h2, h3⟩ | h
  · exact .inl ⟨g, c, rfl, h1, h2, h3.frm hf (hs g rfl)⟩
  · exact .inr h
theorem OI.range {lo hi : Nat} {w : World} {v : Value} {n : Nat} {f : Nat → Int} (h : OI lo hi w v n f) : ∀ k, v.ownBlock = some k → lo ≤ k ∧ k < hi := by
  rcases h with ⟨g, c, rfl, h1, h2, h3⟩ | ⟨_, rfl⟩
  · intro k hk
    simp [Value.ownBlock] at hk
    omega
  · intro k hk
    simp [Value.ownBlock] at hk
theorem OI.keep {lo hi : Nat} {w w' : World} {v : Value} {n : Nat} {f : Nat → Int} (h : OI lo hi w v n f) (hb : Below w.heap.size w w') : OI lo hi w' v n f := h.frm (Frm.of_below (S := fun _ => False) hb) (fun _ _ => id)
theorem OI.sl {lo hi : Nat} {w : World} {v : Value} {n : Nat} {f : Nat → Int} (h : OI lo hi w v n f) : SL w v n f := by
  rcases h with ⟨g, c, rfl, h1, h2, h3⟩ | ⟨rfl, rfl⟩
  · exact .inl ⟨g, 0, c, rfl, IC.of_own h3⟩
  · exact SL.nil

/-- a single line of the call's own, its rows in blocks from lo to hi and apart -/
def SgI (lo hi : Nat) (w : World) (v : Value) (x : Sg) : Prop :=
  ∃ va vb, v = .agg #[va, vb, .int .i64 x.run, .int .i64 x.head] ∧ OI lo hi w va x.na x.A ∧ OI lo hi w vb x.nb x.B ∧ ∀ k, va.ownBlock = some k → vb.ownBlock ≠ some k
theorem SgI.frm {S : Nat → Prop} {lo hi : Nat} {w w' : World} {v : Value} {x : Sg} (h : SgI lo hi w v x) (hf : Frm S w w') (hs : ∀ k, lo ≤ k → k < hi → ¬ S k) : SgI lo hi w' v x := by
  obtain ⟨va, vb, e, h1, h2, h3⟩ := h
  exact ⟨va, vb, e, h1.frm hf (fun k hk => hs k (h1.range k hk).1 (h1.range k hk).2), h2.frm hf (fun k hk => hs k (h2.range k hk).1 (h2.range k hk).2), h3⟩
theorem SgI.keep {lo hi : Nat} {w w' : World} {v : Value} {x : Sg} (h : SgI lo hi w v x) (hb : Below w.heap.size w w') : SgI lo hi w' v x := h.frm (Frm.of_below (S := fun _ => False) hb) (fun _ _ _ => id)
theorem SgI.n {lo hi : Nat} {w : World} {v : Value} {x : Sg} (h : SgI lo hi w v x) : SgN w v x := by
  obtain ⟨va, vb, e, h1, h2, h3⟩ := h
  exact ⟨va, vb, e, h1.sl, h2.sl⟩
theorem SgF.i {base : Nat} {w : World} {v : Value} {x : Sg} (h : SgF base w v x) : SgI base w.heap.size w v x := by
  obtain ⟨ga, ca, gb, cb, rfl, h1, h2, h3, h4, h5⟩ := h
  exact ⟨_, _, rfl, .inl ⟨ga, ca, rfl, h1, h4.lt, h4⟩, .inl ⟨gb, cb, rfl, h2, h5.lt, h5⟩, fun k hk => by simp [Value.ownBlock] at hk ⊢; omega⟩

def markSg (x : Sg) (m : Int) : Sg := ⟨fun i => m + i, x.na, fun i => m + x.na + i, x.nb, x.run, x.head⟩
def heldSg (x : Sg) (m : Int) : Int := if heldV x.A x.na m < 0 then -1 else (if heldV x.B x.nb (heldV x.A x.na m) < 0 then -1 else heldV x.B x.nb (heldV x.A x.na m))
theorem heldSg_mark (x : Sg) (m : Int) (h0 : 0 ≤ m) : heldSg (markSg x m) m = m + x.na + x.nb := by
  have e1 : heldV (fun i => m + i) x.na m = m + x.na := heldV_yes (fun k _ => by simp)
  have e2 : heldV (fun i => m + x.na + i) x.nb (m + x.na) = m + x.na + x.nb := heldV_yes (fun k _ => by simp)
  simp only [heldSg, markSg, e1, e2]
  rw [if_neg (by omega), if_neg (by omega)]

theorem heldV_bd {f : Nat → Int} {n : Nat} {m : Int} (h0 : 0 ≤ m) : -1 ≤ heldV f n m ∧ heldV f n m ≤ m + n := by
  unfold heldV; split <;> omega
end Go.Proofs.Ytnhkijfibiffnaa
