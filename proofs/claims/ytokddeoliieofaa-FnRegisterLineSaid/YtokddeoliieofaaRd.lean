/-
  The reader that the drawn inputs come from: what a pick gives, and what it leaves as it was.
-/
import Derived.Test.YtokddeoliieofaaBase
import Derived.Laws.BitsAllLaws
namespace Go.Proofs.Ytokddeoliieofaa
open Go.RowKit

theorem xor_pos (x y : Int) (hx : 0 ≤ x ∧ x ≤ 9223372036854775807) (hy : 0 ≤ y ∧ y ≤ 9223372036854775807) : 0 ≤ bits .xor .i64 x y ∧ bits .xor .i64 x y ≤ 9223372036854775807 := by
  obtain ⟨a, rfl⟩ := Int.eq_ofNat_of_zero_le hx.1
  obtain ⟨b, rfl⟩ := Int.eq_ofNat_of_zero_le hy.1
  have h1 : (BitVec.ofInt 64 (a : Int)).toNat = a := by
    rw [BitVec.ofInt_natCast, BitVec.toNat_ofNat]
    exact Nat.mod_eq_of_lt (by omega)
  have h2 : (BitVec.ofInt 64 (b : Int)).toNat = b := by
    rw [BitVec.ofInt_natCast, BitVec.toNat_ofNat]
    exact Nat.mod_eq_of_lt (by omega)
  have h3 : a ^^^ b < 2 ^ 63 := Nat.xor_lt_two_pow (by omega) (by omega)
  have h4 : bits .xor .i64 (a : Int) (b : Int) = IntKind.i64.wrap ((a ^^^ b : Nat) : Int) := by
    show IntKind.i64.wrap ((BitVec.ofInt 64 (a : Int) ^^^ BitVec.ofInt 64 (b : Int)).toNat : Int) = _
    rw [BitVec.toNat_xor, h1, h2]
  rw [h4, IntWalk.i64_in _ (by omega)]
  omega

/-- a slice of bytes that is read -/
def BSl (w : World) (ao : Option Addr) (n : Nat) : Prop := n = 0 ∨ ∃ (b o : Nat) (f : Nat → Int), ao = some ⟨b, o, none⟩ ∧ ∀ k, k < n → w.cell? ⟨b, o + k, none⟩ = some (.int .u8 (f k)) ∧ 0 ≤ f k ∧ f k ≤ (255 : Int)
theorem BSl.less {w : World} {ao : Option Addr} {n m : Nat} (h : BSl w ao n) (hm : m ≤ n) : BSl w ao m := by
  rcases h with h | ⟨b, o, f, e, h⟩
  · exact .inl (by omega)
  · exact .inr ⟨b, o, f, e, fun k hk => h k (by omega)⟩
theorem BSl.keep {w w' : World} {ao : Option Addr} {n : Nat} (h : BSl w ao n) (hb : Below w.heap.size w w') : BSl w' ao n := by
  rcases h with h | ⟨b, o, f, e, h⟩
  · exact .inl h
  · refine .inr ⟨b, o, f, e, fun k hk => ?_⟩
    have h1 := h k hk
    have h2 : b < w.heap.size := World.block_lt_of_cell? w ⟨b, o + k, none⟩ h1.1
    exact ⟨by rw [hb.cell (p := ⟨b, o + k, none⟩) h2]; exact h1.1, h1.2⟩

/-- block R is a reader of which at most m numbers have been picked -/
def RdL (w : World) (R m : Nat) : Prop :=
  ∃ ao n c p, p ≤ m ∧ n ≤ 2000 ∧ w.heap[R]? = some (.cells #[.slice ao n c, .int .i64 ((p : Nat) : Int)] 127 (0, 0)) ∧
    (n = 0 ∨ ∃ (b o : Nat) (f : Nat → Int), ao = some ⟨b, o, none⟩ ∧ b < R ∧ ∀ k, k < n → w.cell? ⟨b, o + k, none⟩ = some (.int .u8 (f k)) ∧ 0 ≤ f k ∧ f k ≤ (255 : Int))
theorem RdL.lt {w : World} {R m : Nat} (h : RdL w R m) : R < w.heap.size := by
  obtain ⟨_, _, _, _, _, _, hg, _⟩ := h
  exact (Array.getElem?_eq_some_iff.1 hg).1
theorem RdL.mono {w : World} {R m m' : Nat} (h : RdL w R m) (hm : m ≤ m') : RdL w R m' := by
  obtain ⟨ao, n, c, p, h1, h2⟩ := h
  exact ⟨ao, n, c, p, by omega, h2⟩
theorem RdL.keep {w w' : World} {R m : Nat} (h : RdL w R m) (hb : Below w.heap.size w w') : RdL w' R m := by
  have hl := h.lt
  obtain ⟨ao, n, c, p, h1, h2, h3, h4⟩ := h
  refine ⟨ao, n, c, p, h1, h2, (hb.block R hl).trans h3, ?_⟩
  rcases h4 with h4 | ⟨b, o, f, e, hne, h4⟩
  · exact .inl h4
  · refine .inr ⟨b, o, f, e, hne, fun k hk => ?_⟩
    have g1 := h4 k hk
    have g2 : b < w.heap.size := World.block_lt_of_cell? w ⟨b, o + k, none⟩ g1.1
    exact ⟨by rw [hb.cell (p := ⟨b, o + k, none⟩) g2]; exact g1.1, g1.2⟩
theorem RdL.kept {w w' : World} {R m : Nat} {g : Nat} (h : RdL w R m) (hb : w.grownBy w' (some g)) (hg : R < g) : RdL w' R m := by
  have hl := h.lt
  obtain ⟨ao, n, c, p, h1, h2, h3, h4⟩ := h
  have key : ∀ b, b ≤ R → w'.heap[b]? = w.heap[b]? := fun b hbR => hb.block b (by omega) (by simp; omega)
  refine ⟨ao, n, c, p, h1, h2, (key R (Nat.le_refl _)).trans h3, ?_⟩
  rcases h4 with h4 | ⟨b, o, f, e, hne, h4⟩
  · exact .inl h4
  · exact .inr ⟨b, o, f, e, hne, fun k hk => ⟨(World.cell?_of_block (w := w) (key b (by omega))).trans (h4 k hk).1, (h4 k hk).2⟩⟩

/-- what a pick below n gives -/
def pkB (n v : Int) : Prop := (1 ≤ n → 0 ≤ v ∧ v < n) ∧ (n < 1 → v = 0)
theorem pkB_lt {n v : Int} (h : pkB n v) (hn : 1 ≤ n) : 0 ≤ v ∧ v < n := h.1 hn
theorem pkB_of {n v : Int} (hn : 1 ≤ n) (h : 0 ≤ v ∧ v < n) : pkB n v := ⟨fun _ => h, fun h' => by omega⟩
theorem pkB_zero {n : Int} : pkB n 0 := ⟨fun h => by omega, fun _ => rfl⟩
theorem pkB_mod {n x : Int} (hn : 1 ≤ n) : pkB n (x % n) := pkB_of hn ⟨Int.emod_nonneg _ (by omega), Int.emod_lt_of_pos _ (by omega)⟩

theorem pkB_tmod {n x : Int} (hn : 1 ≤ n) (hx : 0 ≤ x) : pkB n (x.tmod n) := by rw [Int.tmod_eq_emod_of_nonneg hx]; exact pkB_mod hn

theorem rd_step {w : World} {R m n c p : Nat} {ao : Option Addr} (hp : p ≤ m) (hn : n ≤ 2000) (hg : w.heap[R]? = some (.cells #[.slice ao n c, .int .i64 (p : Int)] 127 (0, 0)))
    (hB : n = 0 ∨ ∃ (b o : Nat) (f : Nat → Int), ao = some ⟨b, o, none⟩ ∧ b < R ∧ ∀ k, k < n → w.cell? ⟨b, o + k, none⟩ = some (.int .u8 (f k)) ∧ 0 ≤ f k ∧ f k ≤ (255 : Int)) :
    RdL (w.setCell ⟨R, 1, none⟩ (.int .i64 ((p : Int) + 1))) R (m + 1) := by
  refine ⟨ao, n, c, p + 1, by omega, hn, by simp [World.setCell, Array.getElem?_modify, hg], ?_⟩
  rcases hB with h | ⟨b, o, f, e, hne, h⟩
  · exact .inl h
  · refine .inr ⟨b, o, f, e, hne, fun k hk => ⟨?_, (h k hk).2⟩⟩
    rw [← (h k hk).1]
    exact World.cell?_of_block (w := w) (Below.heap_setCell _ _ _ _ (by dsimp only; omega))

set_option maxHeartbeats 1000000 in
theorem pick_any (R m : Nat) (n : Int) (w : World) (hn : -9223372036854775808 ≤ n ∧ n ≤ 9223372036854775807) (hm : m ≤ 1000000) (hr : RdL w R m) :
    Calls Try.prog 63 #[.pointer (some ⟨R, 0, none⟩), .int .i64 n] w fun e w' => ∃ v : Int, e = .returned (.int .i64 v) ∧ pkB n v ∧ RdL w' R (m + 1) ∧ w.grownBy w' (some R) := by
  obtain ⟨ao, k, c, p, hp, hk, hg, hB⟩ := hr
  have HS := Lib.hid (rd_step hp hk hg hB)
  have HG := Lib.hid (grownBy_setCell w R 1 (.int .i64 ((p : Int) + 1)))
  have c0 : w.cell? ⟨R, 0, none⟩ = some (.slice ao k c) := by simp [World.cell?, hg]
  have c1 : w.cell? ⟨R, 1, none⟩ = some (.int .i64 p) := by simp [World.cell?, hg]
  have hf : ∀ o, w.frozen? ⟨R, o, none⟩ = false := fun o => by simp [World.frozen?, hg]
  obtain ⟨hn0, hn1⟩ := hn
  clear hg
  by_cases h1 : n < 1
  · clear hB
    go_enter Try.func63, Try.ntmps63
    go_wp2
    all_goals
      go_ret
      exact ⟨_, rfl, by first | exact pkB_zero | exact pkB_mod (by omega), HS.out, HG.out⟩
  · by_cases h2 : k = 0
    · subst h2
      clear hB
      go_enter Try.func63, Try.ntmps63
      go_wp2
      all_goals
        go_ret
        exact ⟨_, rfl, by first | exact pkB_zero | exact pkB_mod (by omega), HS.out, HG.out⟩
    · rcases hB with hB | ⟨b, o, f, rfl, hne, hB⟩
      · exact absurd hB h2
      · have hne' : b ≠ R := by omega
        have hkz : ((k : Int) == 0) = false := by simp; omega
        by_cases h3 : p < k
        · have hb := hB p h3
          obtain ⟨hbc, hb0, hb1⟩ := hb
          clear hB h2
          go_enter Try.func63, Try.ntmps63
          go_wp2
          all_goals
            go_ret
            exact ⟨_, rfl, by first | exact pkB_zero | exact pkB_mod (by omega), HS.out, HG.out⟩
        · obtain ⟨i, hi⟩ : ∃ i, i = p % k := ⟨_, rfl⟩
          obtain ⟨j, hj⟩ : ∃ j, j = (p * 7 + 3) % k := ⟨_, rfl⟩
          obtain ⟨d, hd⟩ : ∃ d, d = p / k := ⟨_, rfl⟩
          have q1 : i < k := by rw [hi]; exact Nat.mod_lt _ (by omega)
          have q2 : j < k := by rw [hj]; exact Nat.mod_lt _ (by omega)
          have q3 : d ≤ p := by rw [hd]; exact Nat.div_le_self _ _
          have m1 : ((p : Int) % (k : Int)) = (i : Int) := by rw [hi]; rfl
          have m2 : (((p : Int) * 7 + 3) % (k : Int)) = (j : Int) := by rw [hj]; rfl
          have m3 : ((p : Int) / (k : Int)) = (d : Int) := by rw [hd]; rfl
          have hb := hB i q1
          have hb' := hB j q2
          clear hi hj hd
          obtain ⟨hbc, hb0, hb1⟩ := hb
          obtain ⟨hbc', hb0', hb1'⟩ := hb'
          clear hB h2
          go_enter Try.func63, Try.ntmps63
          go_wp2
          go_quiet (fail)
          go_wp2
          go_ret
          exact ⟨_, rfl, pkB_tmod (by omega) (xor_pos _ _ ⟨by omega, by omega⟩ ⟨by omega, by omega⟩).1, HS.out.keep (below_drewN (Below.refl _ _) _), grownBy_trans HG.out (grownBy_drewN _ _ _)⟩
end Go.Proofs.Ytokddeoliieofaa
