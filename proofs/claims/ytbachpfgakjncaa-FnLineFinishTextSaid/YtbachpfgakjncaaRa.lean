/-
  Walks on a railway: slices.Index of ints, leftMoves, line.
-/
import Derived.Test.YtbachpfgakjncaaCb
import Derived.Test.YtbachpfgakjncaaCl
import Derived.Test.YtbachpfgakjncaaLp
namespace Go.Proofs.Ytbachpfgakjncaa
open Go.RowKit

/-- block r is a railway with rows of its own that hold a line -/
structure RwC (w : World) (r gb cb gt ct : Nat) (x : Ln) : Prop where
  box : Bx w r 101 #[.slice (some ⟨gb, 0, none⟩) x.n cb, .slice (some ⟨gt, 0, none⟩) x.m ct]
  bs : Own w gb cb x.n 3 75 (bkF x.N x.I x.O)
  ts : Own w gt ct x.m 1 3 (fun i => .int .i64 (x.T i))
  d1 : gb ≠ gt
  d2 : r ≠ gb
  d3 : r ≠ gt
theorem RwC.below {w w' : World} {r gb cb gt ct B : Nat} {x : Ln} (h : RwC w r gb cb gt ct x) (hb : Below B w w') (hB : w.heap.size ≤ B) : RwC w' r gb cb gt ct x :=
  ⟨h.box.below hb (Nat.lt_of_lt_of_le h.box.lt hB), h.bs.below hb (Nat.lt_of_lt_of_le h.bs.lt hB), h.ts.below hb (Nat.lt_of_lt_of_le h.ts.lt hB), h.d1, h.d2, h.d3⟩
theorem RwC.bk {w : World} {r gb cb gt ct : Nat} {x : Ln} (h : RwC w r gb cb gt ct x) : BkC w gb 0 x.n x.N x.I x.O := BkC.of_own h.bs
theorem RwC.ic {w : World} {r gb cb gt ct : Nat} {x : Ln} (h : RwC w r gb cb gt ct x) : IC w gt 0 x.m x.T := IC.of_own h.ts

theorem RwC.tr {w : World} {r gb cb gt ct : Nat} {x : Ln} (h : RwC w r gb cb gt ct x) {j : Nat} (hj : j < x.m) : w.cell? ⟨gt, j, none⟩ = some (.int .i64 (x.T j)) := h.ts.cell1 hj
theorem RwC.bl {w : World} {r gb cb gt ct : Nat} {x : Ln} (h : RwC w r gb cb gt ct x) {k : Nat} (hk : k < x.n) : w.cell? ⟨gb, k * 3, none⟩ = some (.int .i64 (x.N k)) ∧ w.cell? ⟨gb, k * 3 + 1, none⟩ = some (.bool (x.I k)) ∧ w.cell? ⟨gb, k * 3 + 2, none⟩ = some (.bool (x.O k)) := by
  have := h.bk.at k hk
  simpa using this

/-- what slices.Index gives -/
def idxI (f : Nat → Int) (p : Int) (n : Nat) : Int := if fstA f p n < n then fstA f p n else -1
theorem index_any (b off n c : Nat) (f : Nat → Int) (p : Int) (w : World) (hn : n ≤ 1000000000000) (hc : IC w b off n f) :
    Calls Try.prog 90 #[.slice (some ⟨b, off, none⟩) n c, .int .i64 p] w fun e w' => e = .returned (.int .i64 (idxI f p n)) ∧ w = w' := by
  go_enter Try.func90, Try.ntmps90
  go_wp2_with fail
  go_loop [5, 8] (fun _ i => ∃ k : Nat, k ≤ n ∧ i = .int .i64 k ∧ Hid (∀ j, j < k → f j ≠ p)) (fun _ i => n - (intOf i).toNat)
  case atStart => exact ⟨0, Nat.zero_le _, rfl, Lib.hid (fun j hj => by omega)⟩
  case round =>
    obtain ⟨k, hk, rfl, HA⟩ := hrel
    by_cases hlt : k < n
    · have hck := hc.at k hlt
      by_cases h1 : f k = p
      · have HE : Hid (idxI f p n = k) := by show _ = _; unfold idxI; rw [fstA_stop f p HA.out h1 n hlt, if_pos hlt]
        have h2 : (p == f k) = true := by simp [h1]
        clear h1
        go_wp2_with fail
        go_ret
        exact ⟨retI HE.out.symm, rfl⟩
      · have HE : Hid (∀ j, j < k + 1 → f j ≠ p) := fun j hj => by
          by_cases e : j = k
          · rw [e]; exact h1
          · exact HA.out j (by omega)
        have h2 : (p == f k) = false := by simp; exact fun e => h1 e.symm
        clear h1
        go_wp2_with fail
        go_round
        case rel => exact ⟨k + 1, by omega, by go_num, HE⟩
        case measure => simp [intOf]; omega
    · obtain rfl : k = n := by omega
      have HE : Hid (idxI f p k = -1) := by show _ = _; unfold idxI; rw [fstA_none f p k HA.out, if_neg (Nat.lt_irrefl _)]
      go_wp2_with fail
      go_ret
      exact ⟨retI HE.out.symm, rfl⟩

/-- how many of the first m stand at a place or before it -/
def leA (f : Nat → Int) (p : Int) : Nat → Nat
  | 0 => 0
  | m + 1 => leA f p m + if f m ≤ p then 1 else 0
theorem leA_le (f : Nat → Int) (p : Int) : ∀ m, leA f p m ≤ m
  | 0 => Nat.le_refl _
  | m + 1 => by
    have := leA_le f p m
    simp only [leA]
    split <;> omega
/-- the moves that the first k sections still need -/
def lefS (x : Ln) : Nat → Int
  | 0 => 0
  | k + 1 => lefS x k + lefV (x.N k) (x.I k) (x.O k) (leA x.T (2 * k) x.m)
theorem lefV_bd (n : Int) (i o : Bool) (t : Nat) : 0 ≤ lefV n i o t ∧ lefV n i o t ≤ 5 * t + 2 := by
  unfold lefV
  split
  · omega
  · split
    · omega
    · split
      · omega
      · split <;> omega
theorem lefS_bd (x : Ln) : ∀ k, 0 ≤ lefS x k ∧ lefS x k ≤ k * (5 * x.m + 2)
  | 0 => by simp [lefS]
  | k + 1 => by
    have h1 := lefS_bd x k
    have h2 := lefV_bd (x.N k) (x.I k) (x.O k) (leA x.T (2 * k) x.m)
    have h3 := leA_le x.T (2 * k) x.m
    have e : ((k + 1 : Nat) : Int) * (5 * x.m + 2) = k * (5 * x.m + 2) + (5 * x.m + 2) := by rw [Int.natCast_add, Int.add_mul]; simp
    simp only [lefS]
    rw [e]
    omega
theorem lefS_bd2 {x : Ln} (hm : x.m ≤ 1000) {k : Nat} (hk : k ≤ 1000) : 0 ≤ lefS x k ∧ lefS x k ≤ 10000000 := by
  have h1 := lefS_bd x k
  have h2 : (k : Int) * (5 * x.m + 2) ≤ 1000 * 5002 := Int.mul_le_mul (by omega) (by omega) (by omega) (by omega)
  omega

set_option linter.unusedSimpArgs false in
set_option maxHeartbeats 1000000 in
theorem leftMoves_any (r gb cb gt ct : Nat) (x : Ln) (w : World) (hn : x.n ≤ 1000) (hm : x.m ≤ 1000) (h : RwC w r gb cb gt ct x) :
    Calls Try.prog 67 #[.pointer (some ⟨r, 0, none⟩)] w fun e w' => e = .returned (.int .i64 (lefS x x.n)) ∧ Below w.heap.size w w' := by
  have H := Lib.hid h
  have hrc := h.box.cell
  clear h
  go_enter Try.func67, Try.ntmps67
  go_wp2_with fail
  clear hrc
  go_loopw [3, 4, 5, 7, 13] (fun s _ _ _ i wr => ∃ k : Nat, k ≤ x.n ∧ i = .int .i64 k ∧ s = .int .i64 (lefS x k) ∧ Hid (Below w.heap.size w wr)) (fun _ _ _ _ i _ => x.n - (intOf i).toNat)
  case atStart => exact ⟨0, Nat.zero_le _, rfl, rfl, Lib.hid (Below.refl _ _)⟩
  case round =>
    obtain ⟨k, hk, rfl, rfl, HW⟩ := hrel
    have HR := Lib.hid (H.out.below HW.out (Nat.le_refl _))
    have hrc := HR.out.box.cell
    by_cases hlt : k < x.n
    · go_wp2_with fail
      go_loop [5, 7, 21] (fun t _ i => ∃ j : Nat, j ≤ x.m ∧ i = .int .i64 j ∧ t = .int .i64 (leA x.T (2 * k) j)) (fun _ _ i => x.m - (intOf i).toNat)
      case atStart => exact ⟨0, Nat.zero_le _, rfl, rfl⟩
      case round =>
        obtain ⟨j, hj, rfl, rfl⟩ := hrel
        have hle := leA_le x.T (2 * k) j
        by_cases hjt : j < x.m
        · have hcj := HR.out.tr hjt
          by_cases h1 : x.T j ≤ 2 * k
          · have HE : Hid (leA x.T (2 * k) (j + 1) = leA x.T (2 * k) j + 1) := by show _ = _; simp [leA, h1]
            go_wp2_with fail
            go_round
            case rel => exact ⟨j + 1, by omega, by go_num, by rw [HE.out]; go_num⟩
            case measure => simp [intOf]; omega
          · have HE : Hid (leA x.T (2 * k) (j + 1) = leA x.T (2 * k) j) := by show _ = _; simp [leA, h1]
            go_wp2_with fail
            go_round
            case rel => exact ⟨j + 1, by omega, by go_num, by rw [HE.out]⟩
            case measure => simp [intOf]; omega
        · obtain rfl : j = x.m := by omega
          have hb1 := lefS_bd2 hm (k := k) (by omega)
          have hb2 := lefV_bd (x.N k) (x.I k) (x.O k) (leA x.T (2 * k) x.m)
          have HE : Hid (lefS x (k + 1) = lefS x k + lefV (x.N k) (x.I k) (x.O k) (leA x.T (2 * k) x.m)) := rfl
          go_wp2_with fail
          refine (left_any gb 0 x.n cb x.N x.I x.O k (leA x.T (2 * k) x.m) _ (by omega) hlt HR.out.bk).mono ?_
          rintro e w2 ⟨rfl, hb⟩
          have HB := Lib.hid (HW.out.trans (hb.mono HW.out.size))
          clear hb
          go_wp2_with fail
          go_roundw
          case rel => exact ⟨k + 1, by omega, by go_num, by rw [HE.out], HB⟩
          case measure => simp [intOf]; omega
    · obtain e : k = x.n := by omega
      subst e
      go_wp2_with fail
      go_ret
      exact ⟨rfl, HW.out⟩
end Go.Proofs.Ytbachpfgakjncaa
