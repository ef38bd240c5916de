/-
  Walks of the laws' own small helpers: sameInts, sumOf; opening the code.
-/
import Derived.Test.YtokddeoliieofaaRd
import Derived.Test.YtokddeoliieofaaA
namespace Go.Proofs.Ytokddeoliieofaa
open Go.RowKit

theorem sameInts_any (b off n c b' off' n' c' : Nat) (f g : Nat → Int) (w : World) (hn : n ≤ 1000000000000000) (hn' : n' ≤ 1000000000000000) (hc : IC w b off n f) (hc' : IC w b' off' n' g) :
    Calls Try.prog 15 #[.slice (some ⟨b, off, none⟩) n c, .slice (some ⟨b', off', none⟩) n' c'] w fun e w' => e = .returned (.bool (eqSl n n' f g)) ∧ Dr w w' := by
  by_cases hnn : n = n'
  · subst hnn
    go_enter Try.func15, Try.ntmps15
    go_wp2
    go_loopw [5] (fun i wr => ∃ k : Nat, k ≤ n ∧ i = .int .i64 k ∧ (∀ j, j < k → f j = g j) ∧ Dr w wr) (fun i _ => n - (intOf i).toNat)
    case atStart => exact ⟨0, Nat.zero_le _, rfl, fun j hj => by omega, Dr.refl _⟩
    case round =>
      obtain ⟨k, hk, rfl, hall, q, rfl⟩ := hrel
      have HA := Lib.hid hall
      clear hall
      by_cases hlt : k < n
      · have hck := hc.at k hlt
        have hck' := hc'.at k hlt
        by_cases h1 : f k = g k
        · have HE := Lib.hid h1
          have h2 : (f k != g k) = false := by simp [h1]
          clear h1
          go_wp2
          go_quiet (fail)
          go_wp2
          go_roundw
          case rel => exact ⟨k + 1, by omega, by go_num, fun j hj => by
              by_cases e : j = k
              · rw [e]; exact HE.out
              · exact HA.out j (by omega), (by repeat (first | exact Dr.refl _ | exact ⟨_, rfl⟩ | refine Dr.drewN ?_ _))⟩
          case measure => simp [intOf]; omega
        · have HE := Lib.hid h1
          have h2 : (f k != g k) = true := by simp [h1]
          clear h1
          go_wp2
          go_quiet (fail)
          go_wp2
          go_ret
          exact ⟨retB (eqSl_at hlt HE.out).symm, (by repeat (first | exact Dr.refl _ | exact ⟨_, rfl⟩ | refine Dr.drewN ?_ _))⟩
      · have e : k = n := by omega
        subst e
        go_wp2
        go_ret
        exact ⟨retB (eqSl_true.2 ⟨rfl, HA.out⟩).symm, (by repeat (first | exact Dr.refl _ | exact ⟨_, rfl⟩ | refine Dr.drewN ?_ _))⟩
  · have h2 : ((n : Int) != (n' : Int)) = true := by simp; omega
    have HE := Lib.hid hnn
    clear hnn
    go_enter Try.func15, Try.ntmps15
    go_wp2
    go_ret
    exact ⟨retB (eqSl_ne HE.out).symm, (by repeat (first | exact Dr.refl _ | exact ⟨_, rfl⟩ | refine Dr.drewN ?_ _))⟩

theorem lawsSum_any (b off n c : Nat) (f : Nat → Int) (w : World) (hn : n ≤ 1000000) (hf : ∀ k, k < n → -1000000000 ≤ f k ∧ f k ≤ 1000000000) (hc : IC w b off n f) :
    Calls Try.prog 43 #[.slice (some ⟨b, off, none⟩) n c] w fun e w' => e = .returned (.int .i64 (sumTo f n)) ∧ w = w' := by
  go_enter Try.func43, Try.ntmps43
  go_wp2
  go_loop [3, 4] (fun l i => ∃ k : Nat, k ≤ n ∧ i = .int .i64 k ∧ l = .int .i64 (sumTo f k)) (fun _ i => n - (intOf i).toNat)
  case atStart => exact ⟨0, Nat.zero_le _, rfl, rfl⟩
  case round =>
    obtain ⟨k, hk, rfl, rfl⟩ := hrel
    have hck := hc.at k
    have hb := sumTo_bd' f 1000000000 n hf k hk
    by_cases hlt : k < n
    · have hfk := hf k hlt
      go_wp2
      go_round
      case rel => exact ⟨k + 1, by omega, by go_num, rfl⟩
      case measure => simp [intOf]; omega
    · have e : k = n := by omega
      subst e
      go_wp2
      go_ret
      exact ⟨rfl, rfl⟩

theorem open_any (ao : Option Addr) (n c : Nat) (w : World) (hn : n ≤ 9223372036854775807) (hnc : n ≤ c) (hB : BSl w ao n) :
    Calls Try.prog 61 #[.slice ao n c] w fun e w' => ∃ R, e = .returned (.pointer (some ⟨R, 0, none⟩)) ∧ w.heap.size ≤ R ∧ RdL w' R 0 ∧ Below w.heap.size w w' := by
  have hbb : ∀ a, Below w.heap.size w (w.alloc a) := fun a => (Below.refl _ _).alloc (Nat.le_refl _) _
  have key : ∀ m : Nat, m ≤ n → m ≤ 2000 → RdL (w.alloc (.cells #[.slice ao m c, .int .i64 ((0 : Nat) : Int)] 127)) w.heap.size 0 := fun m hm h2 => by
    refine ⟨ao, m, c, 0, Nat.le_refl _, h2, heap_alloc_new _ _, ?_⟩
    rcases hB.less hm with h | ⟨b, o, f, e, h⟩
    · exact .inl h
    · by_cases h0 : m = 0
      · exact .inl h0
      · have hlt : b < w.heap.size := World.block_lt_of_cell? w ⟨b, o + 0, none⟩ (h 0 (by omega)).1
        refine .inr ⟨b, o, f, e, by omega, fun k hk => ⟨?_, (h k hk).2⟩⟩
        rw [(hbb _).cell (p := ⟨b, o + k, none⟩) hlt]
        exact (h k hk).1
  have K := Lib.hid key
  have HB := Lib.hid hbb
  clear key hbb
  by_cases h2 : n ≤ 2000
  · go_enter Try.func61, Try.ntmps61
    go_wp2
    go_ret
    exact ⟨_, rfl, Nat.le_refl _, K.out n (Nat.le_refl _) h2, HB.out _⟩
  · go_enter Try.func61, Try.ntmps61
    go_wp2
    go_ret
    exact ⟨_, rfl, Nat.le_refl _, K.out 2000 (by omega) (by omega), HB.out _⟩
end Go.Proofs.Ytokddeoliieofaa
