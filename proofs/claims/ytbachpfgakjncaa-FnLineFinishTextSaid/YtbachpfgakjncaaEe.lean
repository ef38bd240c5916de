/-
  Walks of the helpers of the exact laws on lines: marks of moves and of lines.
-/
import Derived.Test.YtbachpfgakjncaaEd
namespace Go.Proofs.Ytbachpfgakjncaa
open Go.RowKit

set_option linter.unusedSimpArgs false in
theorem markMoveS_any (g c n : Nat) (M : Nat → Int) (L : Nat → ByteArray) (m : Nat) (w : World) (hn : n ≤ 1000000000) (h1 : m ≤ 1000000000) (ho : Own w g c n 2 34 (mvF M L)) :
    Calls Try.prog 23 #[.slice (some ⟨g, 0, none⟩) n c, .int .i64 m] w fun e w' => e = .returned (.int .i64 ((m : Int) + 2 * n)) ∧ Own w' g c n 2 34 (mvF (fun i => (m : Int) + 2 * i) (fun i => mkT (m + 2 * i + 1))) ∧ w.grownBy w' (some g) := by
  have HO0 := Lib.hid ho
  clear ho
  go_enter Try.func23, Try.ntmps23
  go_wp2_with fail
  go_loopw [1, 5] (fun l i wr => ∃ k : Nat, k ≤ n ∧ i = .int .i64 k ∧ l = .int .i64 ((m : Int) + 2 * k) ∧ Hid (Own wr g c n 2 34 (mvF (fun i => if i < k then (m : Int) + 2 * i else M i) (fun i => if i < k then mkT (m + 2 * i + 1) else L i))) ∧ Hid (w.grownBy wr (some g))) (fun _ i _ => n - (intOf i).toNat)
  case atStart => exact ⟨0, Nat.zero_le _, rfl, by go_num, HO0.out.congr (mvF_congr (by simp) (by simp)), World.grownBy.refl _ _⟩
  case round =>
    obtain ⟨k, hk, rfl, rfl, HO, HG⟩ := hrel
    by_cases hlt : k < n
    · obtain ⟨c0, c1⟩ := HO.out.mv hlt
      have hfg := HO.out.free
      have HS := Lib.hid (HO.out.set (k * 2) (.int .i64 ((m : Int) + 2 * k)))
      have HG1 : Hid (w.grownBy (wr.setCell ⟨g, k * 2, none⟩ (.int .i64 ((m : Int) + 2 * k))) (some g)) := grownBy_trans HG.out (grownBy_setCell _ _ _ _)
      have HMT : Hid (∀ W, Calls Try.prog 63 #[.int .i64 ((m : Int) + 2 * k + 1)] W fun e w' => e = .returned (.string (mkT (m + 2 * k + 1))) ∧ Below W.heap.size W w') := fun W => by
        have h := markText_any (m + 2 * k + 1) W (by omega)
        rwa [show (((m + 2 * k + 1 : Nat) : Int)) = (m : Int) + 2 * k + 1 by omega] at h
      go_wp2_with fail
      refine (HMT.out _).mono ?_
      rintro e w2 ⟨rfl, hb⟩
      have HS2 := Lib.hid (HS.out.below hb HS.out.lt)
      have HG2 := Lib.hid (grownBy_trans HG1.out (grownBy_below hb _))
      have hfg2 := HS2.out.free
      have hc2 := HS2.out.cell (i := k * 2 + 1) (by omega)
      have HS3 : Hid (Own (w2.setCell ⟨g, k * 2 + 1, none⟩ (.string (mkT (m + 2 * k + 1)))) g c n 2 34 (mvF (fun i => if i < k + 1 then (m : Int) + 2 * i else M i) (fun i => if i < k + 1 then mkT (m + 2 * i + 1) else L i))) := by
        have h := (HS2.out.set (k * 2 + 1) (.string (mkT (m + 2 * k + 1)))).congr (f' := mvF (upd (fun i => if i < k then (m : Int) + 2 * i else M i) k ((fun i : Nat => (m : Int) + 2 * i) k)) (upd (fun i => if i < k then mkT (m + 2 * i + 1) else L i) k ((fun i => mkT (m + 2 * i + 1)) k))) fun i _ => mvF_upd i
        rw [upd_stepF (fun i : Nat => (m : Int) + 2 * i) M k, upd_stepF (fun i => mkT (m + 2 * i + 1)) L k] at h
        exact h
      clear hb hfg c0 c1
      go_wp2_with fail
      go_roundw
      case rel => exact ⟨k + 1, by omega, by go_num, by go_num, HS3, grownBy_trans HG2.out (grownBy_setCell _ _ _ _)⟩
      case measure => simp [intOf]; omega
    · obtain e : k = n := by omega
      subst e
      go_wp2_with fail
      go_ret
      exact ⟨rfl, HO.out.congr (mvF_congr (fun i hi => by simp [hi]) (fun i hi => by simp [hi])), HG.out⟩
theorem markMoveS_zero (ao : Option Addr) (c m : Nat) (w : World) :
    Calls Try.prog 23 #[.slice ao 0 c, .int .i64 m] w fun e w' => e = .returned (.int .i64 m) ∧ w = w' := by
  go_enter Try.func23, Try.ntmps23
  go_wp2_with fail
  go_loop [1, 5] (fun l i => i = .int .i64 0 ∧ l = .int .i64 m) (fun _ _ => 0)
  case atStart => exact ⟨rfl, rfl⟩
  case round =>
    obtain ⟨rfl, rfl⟩ := hrel
    go_wp2_with fail
    go_ret
    exact ⟨rfl, rfl⟩
theorem markBlockS_zero (ao : Option Addr) (c : Nat) (m : Int) (w : World) :
    Calls Try.prog 61 #[.slice ao 0 c, .int .i64 m] w fun e w' => e = .returned (.int .i64 m) ∧ w = w' := by
  go_enter Try.func61, Try.ntmps61
  go_wp2_with fail
  go_loop [1, 5] (fun l i => i = .int .i64 0 ∧ l = .int .i64 m) (fun _ _ => 0)
  case atStart => exact ⟨rfl, rfl⟩
  case round =>
    obtain ⟨rfl, rfl⟩ := hrel
    go_wp2_with fail
    go_ret
    exact ⟨rfl, rfl⟩
theorem markIntS_zero (ao : Option Addr) (c : Nat) (m : Int) (w : World) :
    Calls Try.prog 62 #[.slice ao 0 c, .int .i64 m] w fun e w' => e = .returned (.int .i64 m) ∧ w = w' := by
  go_enter Try.func62, Try.ntmps62
  go_wp2_with fail
  go_loop [1, 5] (fun l i => i = .int .i64 0 ∧ l = .int .i64 m) (fun _ _ => 0)
  case atStart => exact ⟨rfl, rfl⟩
  case round =>
    obtain ⟨rfl, rfl⟩ := hrel
    go_wp2_with fail
    go_ret
    exact ⟨rfl, rfl⟩
theorem heldBlockS_zero (ao : Option Addr) (c : Nat) (m : Int) (w : World) :
    Calls Try.prog 76 #[.slice ao 0 c, .int .i64 m] w fun e w' => e = .returned (.int .i64 m) ∧ w = w' := by
  go_enter Try.func76, Try.ntmps76
  go_wp2_with fail
  go_loop [1, 5] (fun l i => i = .int .i64 0 ∧ l = .int .i64 m) (fun _ _ => 0)
  case atStart => exact ⟨rfl, rfl⟩
  case round =>
    obtain ⟨rfl, rfl⟩ := hrel
    go_wp2_with fail
    go_ret
    exact ⟨rfl, rfl⟩
theorem heldIntS_zero (ao : Option Addr) (c : Nat) (m : Int) (w : World) :
    Calls Try.prog 77 #[.slice ao 0 c, .int .i64 m] w fun e w' => e = .returned (.int .i64 m) ∧ w = w' := by
  go_enter Try.func77, Try.ntmps77
  go_wp2_with fail
  go_loop [1, 5] (fun l i => i = .int .i64 0 ∧ l = .int .i64 m) (fun _ _ => 0)
  case atStart => exact ⟨rfl, rfl⟩
  case round =>
    obtain ⟨rfl, rfl⟩ := hrel
    go_wp2_with fail
    go_ret
    exact ⟨rfl, rfl⟩

/-- a row of blocks of its own (block g), or nil -/
def RowB (w : World) (v : Value) (n : Nat) (f : Nat → Value) (g : Option Nat) : Prop :=
  (∃ b c, g = some b ∧ v = .slice (some ⟨b, 0, none⟩) n c ∧ Own w b c n 3 75 f) ∨ (g = none ∧ n = 0 ∧ v = .slice none 0 0)
/-- a row of ints of its own, or nil -/
def RowI (w : World) (v : Value) (n : Nat) (f : Nat → Int) (g : Option Nat) : Prop :=
  (∃ b c, g = some b ∧ v = .slice (some ⟨b, 0, none⟩) n c ∧ Own w b c n 1 3 (fun i => .int .i64 (f i))) ∨ (g = none ∧ n = 0 ∧ v = .slice none 0 0)
theorem RowB.below {w w' : World} {v : Value} {n : Nat} {f : Nat → Value} {g : Option Nat} (h : RowB w v n f g) (hb : Below w.heap.size w w') : RowB w' v n f g := by
  rcases h with ⟨b, c, e, e2, h⟩ | h
  · exact .inl ⟨b, c, e, e2, h.below hb h.lt⟩
  · exact .inr h
theorem RowI.below {w w' : World} {v : Value} {n : Nat} {f : Nat → Int} {g : Option Nat} (h : RowI w v n f g) (hb : Below w.heap.size w w') : RowI w' v n f g := by
  rcases h with ⟨b, c, e, e2, h⟩ | h
  · exact .inl ⟨b, c, e, e2, h.below hb h.lt⟩
  · exact .inr h
theorem RowB.grown {w w' : World} {v : Value} {n : Nat} {f : Nat → Value} {g row : Option Nat} (h : RowB w v n f g) (hb : w.grownBy w' row) (hne : ∀ b, g = some b → row ≠ some b) : RowB w' v n f g := by
  rcases h with ⟨b, c, e, e2, h⟩ | h
  · exact .inl ⟨b, c, e, e2, h.kept hb (fun q => hne b e q.symm)⟩
  · exact .inr h
theorem RowI.grown {w w' : World} {v : Value} {n : Nat} {f : Nat → Int} {g row : Option Nat} (h : RowI w v n f g) (hb : w.grownBy w' row) (hne : ∀ b, g = some b → row ≠ some b) : RowI w' v n f g := by
  rcases h with ⟨b, c, e, e2, h⟩ | h
  · exact .inl ⟨b, c, e, e2, h.kept hb (fun q => hne b e q.symm)⟩
  · exact .inr h
theorem RowB.reads {w : World} {v : Value} {n : Nat} {N : Nat → Int} {I O : Nat → Bool} {g : Option Nat} (h : RowB w v n (bkF N I O) g) : BL w v n N I O := by
  rcases h with ⟨b, c, e, e2, h⟩ | ⟨e, e2, e3⟩
  · exact .inl ⟨b, 0, c, e2, BkC.of_own h⟩
  · exact .inr ⟨e2, _, _, e3⟩
theorem RowI.reads {w : World} {v : Value} {n : Nat} {f : Nat → Int} {g : Option Nat} (h : RowI w v n f g) : SL w v n f := by
  rcases h with ⟨b, c, e, e2, h⟩ | ⟨e, e2, e3⟩
  · exact .inl ⟨b, 0, c, e2, IC.of_own h⟩
  · exact .inr ⟨e2, _, _, e3⟩
theorem markB_row (v : Value) (n : Nat) (N : Nat → Int) (I O : Nat → Bool) (g : Option Nat) (m : Int) (w : World) (hn : n ≤ 1000000000) (h0 : 0 ≤ m) (h1 : m ≤ 1000000000) (h : RowB w v n (bkF N I O) g) :
    Calls Try.prog 61 #[v, .int .i64 m] w fun e w' => e = .returned (.int .i64 (m + 3 * n)) ∧ RowB w' v n (bkF (mkN m) (mkI m) (mkO m)) g ∧ w.grownBy w' g := by
  rcases h with ⟨b, c, rfl, rfl, h⟩ | ⟨rfl, rfl, rfl⟩
  · exact (markBlockS_any b c n N I O m w hn h0 h1 h).mono fun e w' ⟨e1, e2, e3⟩ => ⟨e1, .inl ⟨b, c, rfl, rfl, e2⟩, e3⟩
  · exact (markBlockS_zero none 0 m w).mono fun e w' ⟨e1, e2⟩ => ⟨by rw [e1]; simp, .inr ⟨rfl, rfl, rfl⟩, by rw [e2]; exact World.grownBy.refl _ _⟩
theorem markI_row (v : Value) (n : Nat) (f : Nat → Int) (g : Option Nat) (m : Int) (w : World) (hn : n ≤ 1000000000) (h0 : 0 ≤ m) (h1 : m ≤ 1000000000) (h : RowI w v n f g) :
    Calls Try.prog 62 #[v, .int .i64 m] w fun e w' => e = .returned (.int .i64 (m + n)) ∧ RowI w' v n (fun i => m + i) g ∧ w.grownBy w' g := by
  rcases h with ⟨b, c, rfl, rfl, h⟩ | ⟨rfl, rfl, rfl⟩
  · exact (markIntS_any b c n f m w hn h0 h1 h).mono fun e w' ⟨e1, e2, e3⟩ => ⟨e1, .inl ⟨b, c, rfl, rfl, e2⟩, e3⟩
  · exact (markIntS_zero none 0 m w).mono fun e w' ⟨e1, e2⟩ => ⟨by rw [e1]; simp, .inr ⟨rfl, rfl, rfl⟩, by rw [e2]; exact World.grownBy.refl _ _⟩
theorem heldB_row (v : Value) (n : Nat) (g : Option Nat) (m : Int) (w : World) (hn : n ≤ 1000000000) (h0 : 0 ≤ m) (h1 : m ≤ 1000000000) (h : RowB w v n (bkF (mkN m) (mkI m) (mkO m)) g) :
    Calls Try.prog 76 #[v, .int .i64 m] w fun e w' => e = .returned (.int .i64 (m + 3 * n)) ∧ w = w' := by
  rcases h with ⟨b, c, rfl, rfl, h⟩ | ⟨rfl, rfl, rfl⟩
  · exact heldBlockS_marks b c n m w hn h0 h1 h
  · exact (heldBlockS_zero none 0 m w).mono fun e w' ⟨e1, e2⟩ => ⟨by rw [e1]; simp, e2⟩
theorem heldI_row (v : Value) (n : Nat) (g : Option Nat) (m : Int) (w : World) (hn : n ≤ 1000000000) (h0 : 0 ≤ m) (h1 : m ≤ 1000000000) (h : RowI w v n (fun i => m + i) g) :
    Calls Try.prog 77 #[v, .int .i64 m] w fun e w' => e = .returned (.int .i64 (m + n)) ∧ w = w' := by
  rcases h with ⟨b, c, rfl, rfl, h⟩ | ⟨rfl, rfl, rfl⟩
  · exact (heldIntS_any b 0 n c _ m w hn h0 h1 (IC.of_own h)).mono fun e w' ⟨e1, e2⟩ => ⟨by rw [e1, heldV_yes (fun k _ => by simp)], e2⟩
  · exact (heldIntS_zero none 0 m w).mono fun e w' ⟨e1, e2⟩ => ⟨by rw [e1]; simp, e2⟩
end Go.Proofs.Ytbachpfgakjncaa
