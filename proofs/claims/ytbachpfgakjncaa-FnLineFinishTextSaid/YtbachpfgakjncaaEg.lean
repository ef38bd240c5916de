/-
  Walks of the helpers of the exact laws on lines: held marks of moves; rows of moves that may be nil.
-/
import Derived.Test.YtbachpfgakjncaaEf
import Derived.Test.YtbachpfgakjncaaLm
namespace Go.Proofs.Ytbachpfgakjncaa
open Go.RowKit

def mkMM (m : Nat) (i : Nat) : Int := (m : Int) + 2 * i
def mkMS (m : Nat) (i : Nat) : ByteArray := mkT (m + 2 * i + 1)
theorem bne_same (s : ByteArray) : (s.toList != s.toList) = false := by simp
set_option linter.unusedSimpArgs false in
theorem heldMoveS_marks (g c n m : Nat) (w : World) (hn : n ≤ 1000000000) (h1 : m ≤ 1000000000) (ho : Own w g c n 2 34 (mvF (mkMM m) (mkMS m))) :
    Calls Try.prog 24 #[.slice (some ⟨g, 0, none⟩) n c, .int .i64 m] w fun e w' => e = .returned (.int .i64 ((m : Int) + 2 * n)) ∧ Below w.heap.size w w' := by
  have HO0 := Lib.hid ho
  clear ho
  go_enter Try.func24, Try.ntmps24
  go_wp2_with fail
  go_loopw [1, 5] (fun l i wr => ∃ k : Nat, k ≤ n ∧ i = .int .i64 k ∧ l = .int .i64 ((m : Int) + 2 * k) ∧ Hid (Below w.heap.size w wr)) (fun _ i _ => n - (intOf i).toNat)
  case atStart => exact ⟨0, Nat.zero_le _, rfl, by go_num, Lib.hid (Below.refl _ _)⟩
  case round =>
    obtain ⟨k, hk, rfl, rfl, HB⟩ := hrel
    by_cases hlt : k < n
    · have HO : Hid (Own wr g c n 2 34 (mvF (mkMM m) (mkMS m))) := HO0.out.below HB.out HO0.out.lt
      have hcg : wr.cell? ⟨g, k * 2, none⟩ = some (.int .i64 ((m : Int) + 2 * k)) ∧ wr.cell? ⟨g, k * 2 + 1, none⟩ = some (.string (mkT (m + 2 * k + 1))) := HO.out.mv hlt
      have hgl := HO.out.lt
      obtain ⟨c0, c1⟩ := hcg
      have e1 : ((m : Int) + 2 * (k : Int) != (m : Int) + 2 * (k : Int)) = false := by simp
      have HMT : Hid (∀ W, Calls Try.prog 63 #[.int .i64 ((m : Int) + 2 * k + 1)] W fun e w' => e = .returned (.string (mkT (m + 2 * k + 1))) ∧ Below W.heap.size W w') := fun W => by
        have h := markText_any (m + 2 * k + 1) W (by omega)
        rwa [show (((m + 2 * k + 1 : Nat) : Int)) = (m : Int) + 2 * k + 1 by omega] at h
      generalize mkT (m + 2 * k + 1) = s at *
      have e2 := bne_same s
      go_wp2_with fail
      refine wp_region_held_drew (S := (fun w' => w'.cell? ⟨g, k * 2 + 1, none⟩ = some (.string s))) (by kernel_rfl) ?_ (fun hHeld => ?_)
      · try dsimp only
        go_keep
      refine wpAnyH_take (i := 0) (oi := ?_) (v := ?_) ?_ (by kernel_rfl) (by kernel_rfl) (by kernel_rfl) ?_ ?_ (by assumption) ?_
      rotate_left 2
      · simp only [List.getElem?_toArray, List.getElem?_cons_succ, List.getElem?_cons_zero]; rfl
      · exact fun _ _ _ h => h
      · first
          | (refine Or.inr ⟨?_, ?_⟩ <;> rfl)
          | (refine Or.inl ⟨?_, ?_⟩; · rfl
             intro w hSw; (try dsimp only at hSw); go_simp; (try with_reducible rfl); done)
      try simp only [Act.put, List.setIfInBounds_toArray, List.set_cons_zero, List.set_cons_succ]
      refine wpAnyH_take (i := 1) (oi := ?_) (v := ?_) ?_ (by kernel_rfl) (by kernel_rfl) (by kernel_rfl) ?_ ?_ (by assumption) ?_
      rotate_left 2
      · simp only [List.getElem?_toArray, List.getElem?_cons_succ, List.getElem?_cons_zero]; rfl
      · exact fun _ _ _ h => h
      · first
          | (refine Or.inr ⟨?_, ?_⟩ <;> rfl)
          | (refine Or.inl ⟨?_, ?_⟩; · rfl
             intro w hSw; (try dsimp only at hSw); go_simp; (try with_reducible rfl); done)
      try simp only [Act.put, List.setIfInBounds_toArray, List.set_cons_zero, List.set_cons_succ]
      refine wpAnyH_take (i := 2) (oi := ?_) (v := ?_) ?_ (by kernel_rfl) (by kernel_rfl) (by kernel_rfl) ?_ ?_ (by assumption) ?_
      rotate_left 2
      · simp only [List.getElem?_toArray, List.getElem?_cons_succ, List.getElem?_cons_zero]; rfl
      · exact fun _ _ _ h => h
      · first
          | (refine Or.inr ⟨?_, ?_⟩ <;> rfl)
          | (refine Or.inl ⟨?_, ?_⟩; · rfl
             intro w hSw; (try dsimp only at hSw); go_simp; (try with_reducible rfl); done)
      try simp only [Act.put, List.setIfInBounds_toArray, List.set_cons_zero, List.set_cons_succ]
      refine wpAnyH_take (i := 3) (oi := ?_) (v := ?_) ?_ (by kernel_rfl) (by kernel_rfl) (by kernel_rfl) ?_ ?_ (by assumption) ?_
      rotate_left 2
      · simp only [List.getElem?_toArray, List.getElem?_cons_succ, List.getElem?_cons_zero]; rfl
      · exact fun _ _ _ h => h
      · first
          | (refine Or.inr ⟨?_, ?_⟩ <;> rfl)
          | (refine Or.inl ⟨?_, ?_⟩; · rfl
             intro w hSw; (try dsimp only at hSw); go_simp; (try with_reducible rfl); done)
      try simp only [Act.put, List.setIfInBounds_toArray, List.set_cons_zero, List.set_cons_succ]
      refine wpAnyH_take (i := 4) (oi := ?_) (v := ?_) ?_ (by kernel_rfl) (by kernel_rfl) (by kernel_rfl) ?_ ?_ (by assumption) ?_
      rotate_left 2
      · simp only [List.getElem?_toArray, List.getElem?_cons_succ, List.getElem?_cons_zero]; rfl
      · exact fun _ _ _ h => h
      · first
          | (refine Or.inr ⟨?_, ?_⟩ <;> rfl)
          | (refine Or.inl ⟨?_, ?_⟩; · rfl
             intro w hSw; (try dsimp only at hSw); go_simp; (try with_reducible rfl); done)
      try simp only [Act.put, List.setIfInBounds_toArray, List.set_cons_zero, List.set_cons_succ]
      refine wpAnyH_take (i := 5) (oi := ?_) (v := ?_) ?_ (by kernel_rfl) (by kernel_rfl) (by kernel_rfl) ?_ ?_ (by assumption) ?_
      rotate_left 2
      · simp only [List.getElem?_toArray, List.getElem?_cons_succ, List.getElem?_cons_zero]; rfl
      · exact fun _ _ _ h => h
      · first
          | (refine Or.inr ⟨?_, ?_⟩ <;> rfl)
          | (refine Or.inl ⟨?_, ?_⟩; · rfl
             intro w hSw; (try dsimp only at hSw); go_simp; (try with_reducible rfl); done)
      try simp only [Act.put, List.setIfInBounds_toArray, List.set_cons_zero, List.set_cons_succ]
      refine wpAnyH_ready (rs := [6]) (by kernel_rfl) (by simp) ?_
      refine AllReadyH.cons (o := ?_) ?_ (fun K hK => ?_) AllReadyH.nil
      rotate_left 1
      · simp only [List.getElem?_toArray, List.getElem?_cons_succ, List.getElem?_cons_zero]; rfl
      go_simp
      go_at_call 63
      go_must (refine Calls.mono (HMT.out _) ?_)
      rintro e w2 ⟨rfl, hb⟩
      replace hb : Below wr.heap.size wr w2 := (Below.refl _ wr).drew.trans hb
      have HB2 := Lib.hid (HB.out.trans (hb.mono HB.out.size))
      have c2 : w2.cell? ⟨g, k * 2 + 1, none⟩ = some (.string s) := by rw [hb.cell (p := ⟨g, k * 2 + 1, none⟩) hgl]; exact c1
      clear hb
      refine hK.out _ _ ?_ (fun hHeld => ?_)
      · try dsimp only
        go_keep
      clear hK K
      try simp only [Act.put, List.setIfInBounds_toArray, List.set_cons_zero, List.set_cons_succ]
      refine wpAnyH_take (i := 7) (oi := ?_) (v := ?_) ?_ (by kernel_rfl) (by kernel_rfl) (by kernel_rfl) ?_ ?_ (by assumption) ?_
      rotate_left 2
      · simp only [List.getElem?_toArray, List.getElem?_cons_succ, List.getElem?_cons_zero]; rfl
      · exact fun _ _ _ h => h
      · first
          | (refine Or.inr ⟨?_, ?_⟩ <;> rfl)
          | (refine Or.inl ⟨?_, ?_⟩; · rfl
             intro w hSw; (try dsimp only at hSw); go_simp; (try with_reducible rfl); done)
      try simp only [Act.put, List.setIfInBounds_toArray, List.set_cons_zero, List.set_cons_succ]
      refine wpAnyH_done (by kernel_rfl) ?_ _
      go_wp2_with fail
      go_roundw
      case rel => exact ⟨k + 1, by omega, by go_num, by go_num, HB2⟩
      case measure => simp [intOf]; omega
    · obtain e : k = n := by omega
      subst e
      go_wp2_with fail
      go_ret
      exact ⟨rfl, HB.out⟩
theorem heldMoveS_zero (ao : Option Addr) (c m : Nat) (w : World) :
    Calls Try.prog 24 #[.slice ao 0 c, .int .i64 m] w fun e w' => e = .returned (.int .i64 m) ∧ w = w' := by
  go_enter Try.func24, Try.ntmps24
  go_wp2_with fail
  go_loop [1, 5] (fun l i => i = .int .i64 0 ∧ l = .int .i64 m) (fun _ _ => 0)
  case atStart => exact ⟨rfl, rfl⟩
  case round =>
    obtain ⟨rfl, rfl⟩ := hrel
    go_wp2_with fail
    go_ret
    exact ⟨rfl, rfl⟩
/-- a row of moves of its own, told by its numbers and letters; or nil -/
def RowN (w : World) (v : Value) (q : Nat) (M : Nat → Int) (L : Nat → ByteArray) (g : Option Nat) : Prop :=
  (∃ b c, g = some b ∧ v = .slice (some ⟨b, 0, none⟩) q c ∧ Own w b c q 2 34 (mvF M L)) ∨ (g = none ∧ q = 0 ∧ v = .slice none 0 0)
theorem RowN.below {w w' : World} {v : Value} {q : Nat} {M : Nat → Int} {L : Nat → ByteArray} {g : Option Nat} (h : RowN w v q M L g) (hb : Below w.heap.size w w') : RowN w' v q M L g := by
  rcases h with ⟨b, c, e, e2, h⟩ | h
  · exact .inl ⟨b, c, e, e2, h.below hb h.lt⟩
  · exact .inr h
theorem RowN.grown {w w' : World} {v : Value} {q : Nat} {M : Nat → Int} {L : Nat → ByteArray} {g row : Option Nat} (h : RowN w v q M L g) (hb : w.grownBy w' row) (hne : ∀ b, g = some b → row ≠ some b) : RowN w' v q M L g := by
  rcases h with ⟨b, c, e, e2, h⟩ | h
  · exact .inl ⟨b, c, e, e2, h.kept hb (fun q => hne b e q.symm)⟩
  · exact .inr h
theorem RowN.reads {w : World} {v : Value} {q : Nat} {M : Nat → Int} {L : Nat → ByteArray} {g : Option Nat} (h : RowN w v q M L g) : MLs w v q M L := by
  rcases h with ⟨b, c, e, e2, h⟩ | ⟨e, e2, e3⟩
  · exact .inl ⟨b, 0, c, e2, MvsC.of_own h⟩
  · exact .inr ⟨e2, _, _, e3⟩
theorem RowN.shape {w : World} {v : Value} {q : Nat} {M : Nat → Int} {L : Nat → ByteArray} {g : Option Nat} (h : RowN w v q M L g) : ∃ ao c, v = .slice ao q c := h.reads.shape
theorem RowMs.row {z : Nat} {w : World} {v : Value} {ys : List (Int × ByteArray)} {g : Option Nat} (h : RowMs z w v ys g) : RowN w v ys.length (mvM ys) (mvS ys) g ∧ (∀ c, g = some c → z ≤ c ∧ c < w.heap.size) := by
  rcases h with ⟨b, c, rfl, e2, e3, h⟩ | ⟨rfl, rfl, e2⟩
  · exact ⟨.inl ⟨b, c, rfl, e2, h⟩, fun c e => by cases e; exact ⟨e3, h.lt⟩⟩
  · exact ⟨.inr ⟨rfl, rfl, e2⟩, fun c e => by cases e⟩
theorem markM_row (v : Value) (q : Nat) (M : Nat → Int) (L : Nat → ByteArray) (g : Option Nat) (m : Nat) (w : World) (hn : q ≤ 1000000000) (h1 : m ≤ 1000000000) (h : RowN w v q M L g) :
    Calls Try.prog 23 #[v, .int .i64 m] w fun e w' => e = .returned (.int .i64 ((m : Int) + 2 * q)) ∧ RowN w' v q (mkMM m) (mkMS m) g ∧ w.grownBy w' g := by
  rcases h with ⟨b, c, rfl, rfl, h⟩ | ⟨rfl, rfl, rfl⟩
  · exact (markMoveS_any b c q M L m w hn h1 h).mono fun e w' ⟨e1, e2, e3⟩ => ⟨e1, .inl ⟨b, c, rfl, rfl, e2⟩, e3⟩
  · exact (markMoveS_zero none 0 m w).mono fun e w' ⟨e1, e2⟩ => ⟨by rw [e1]; simp, .inr ⟨rfl, rfl, rfl⟩, by rw [e2]; exact World.grownBy.refl _ _⟩
theorem heldM_row (v : Value) (q : Nat) (g : Option Nat) (m : Nat) (w : World) (hn : q ≤ 1000000000) (h1 : m ≤ 1000000000) (h : RowN w v q (mkMM m) (mkMS m) g) :
    Calls Try.prog 24 #[v, .int .i64 m] w fun e w' => e = .returned (.int .i64 ((m : Int) + 2 * q)) ∧ Below w.heap.size w w' := by
  rcases h with ⟨b, c, rfl, rfl, h⟩ | ⟨rfl, rfl, rfl⟩
  · exact heldMoveS_marks b c q m w hn h1 h
  · exact (heldMoveS_zero none 0 m w).mono fun e w' ⟨e1, e2⟩ => ⟨by rw [e1]; simp, by rw [e2]; exact Below.refl _ _⟩
end Go.Proofs.Ytbachpfgakjncaa
