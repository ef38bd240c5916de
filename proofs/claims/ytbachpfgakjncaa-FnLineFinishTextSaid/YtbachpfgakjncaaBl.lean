/-
  Walks on lines: the blocks' possible, the railway's count.
-/
import Derived.Test.YtbachpfgakjncaaBn
import Derived.Test.YtbachpfgakjncaaBase
namespace Go.Proofs.Ytbachpfgakjncaa
open Go.RowKit

/-- a row of blocks -/
def BkC (w : World) (b off n : Nat) (N : Nat → Int) (I O : Nat → Bool) : Prop :=
  ∀ k, k < n → w.cell? ⟨b, off + k * 3, none⟩ = some (.int .i64 (N k)) ∧ w.cell? ⟨b, off + k * 3 + 1, none⟩ = some (.bool (I k)) ∧ w.cell? ⟨b, off + k * 3 + 2, none⟩ = some (.bool (O k))
theorem BkC.at {w : World} {b off n : Nat} {N : Nat → Int} {I O : Nat → Bool} (h : BkC w b off n N I O) (k : Nat) (hk : k < n) :
    w.cell? ⟨b, off + k * 3, none⟩ = some (.int .i64 (N k)) ∧ w.cell? ⟨b, off + k * 3 + 1, none⟩ = some (.bool (I k)) ∧ w.cell? ⟨b, off + k * 3 + 2, none⟩ = some (.bool (O k)) := h k hk
theorem BkC.below {w w' : World} {b off n B : Nat} {N : Nat → Int} {I O : Nat → Bool} (h : BkC w b off n N I O) (hb : Below B w w') (hB : b < B) : BkC w' b off n N I O := fun k hk => by
  obtain ⟨h1, h2, h3⟩ := h k hk
  exact ⟨by rw [hb.cell (p := ⟨b, off + k * 3, none⟩) hB]; exact h1, by rw [hb.cell (p := ⟨b, off + k * 3 + 1, none⟩) hB]; exact h2, by rw [hb.cell (p := ⟨b, off + k * 3 + 2, none⟩) hB]; exact h3⟩

/-- how many of the first m stand at a place -/
def cntA (f : Nat → Int) (p : Int) : Nat → Nat
  | 0 => 0
  | m + 1 => cntA f p m + if f m = p then 1 else 0
theorem cntA_le (f : Nat → Int) (p : Int) : ∀ m, cntA f p m ≤ m
  | 0 => Nat.le_refl _
  | m + 1 => by
    have := cntA_le f p m
    simp only [cntA]
    split <;> omega
set_option linter.unusedSimpArgs false in
theorem count_any (r : Nat) (bv : Value) (b off n c : Nat) (f : Nat → Int) (p : Int) (w : World) (hn : n ≤ 1000000000000) (hr : Bx w r 101 #[bv, .slice (some ⟨b, off, none⟩) n c]) (hc : IC w b off n f) :
    Calls Try.prog 73 #[.pointer (some ⟨r, 0, none⟩), .int .i64 p] w fun e w' => e = .returned (.int .i64 (cntA f p n)) ∧ w = w' := by
  have hrc := hr.cell
  clear hr
  go_enter Try.func73, Try.ntmps73
  go_wp2_with fail
  go_loop [5, 7, 13] (fun s _ si => ∃ k : Nat, k ≤ n ∧ si = .int .i64 k ∧ s = .int .i64 (cntA f p k)) (fun _ _ si => n - (intOf si).toNat)
  case atStart => exact ⟨0, Nat.zero_le _, rfl, rfl⟩
  case round =>
    obtain ⟨k, hk, rfl, rfl⟩ := hrel
    have hle := cntA_le f p k
    by_cases hlt : k < n
    · have hck := hc.at k hlt
      by_cases h1 : f k = p
      · have h2 : (f k == p) = true := by simp [h1]
        have HE : Hid (cntA f p (k + 1) = cntA f p k + 1) := by show _ = _; simp [cntA, h1]
        clear h1
        go_wp2_with fail
        go_round
        case rel => exact ⟨k + 1, by omega, by go_num, by rw [HE.out]; go_num⟩
        case measure => simp [intOf]; omega
      · have h2 : (f k == p) = false := by simp [h1]
        have HE : Hid (cntA f p (k + 1) = cntA f p k) := by show _ = _; simp [cntA, h1]
        clear h1
        go_wp2_with fail
        go_round
        case rel => exact ⟨k + 1, by omega, by go_num, by rw [HE.out]⟩
        case measure => simp [intOf]; omega
    · have e : k = n := by omega
      subst e
      go_wp2_with fail
      go_ret
      exact ⟨rfl, rfl⟩
theorem sectionsValid_any (n : Int) (w : World) (_hn : -9223372036854775808 ≤ n ∧ n ≤ 9223372036854775807) :
    Calls Try.prog 65 #[.int .i64 n] w fun e w' => e = .returned (.bool (inB n 1 5)) ∧ w = w' := by
  by_cases h : 1 ≤ n
  · have g : decide (1 ≤ n) = true := decide_eq_true h
    have H : Hid (inB n 1 5 = decide (n ≤ 5)) := by show _ = _; unfold inB; rw [g]; rfl
    go_enter Try.func65, Try.ntmps65
    go_wp2
    go_ret
    exact ⟨retB (by rw [H.out]), rfl⟩
  · have g : decide (1 ≤ n) = false := decide_eq_false h
    have H : Hid (inB n 1 5 = false) := by show _ = _; unfold inB; rw [g]; rfl
    go_enter Try.func65, Try.ntmps65
    go_wp2
    go_ret
    exact ⟨retB (by rw [H.out]), rfl⟩

/-- a block of a row is possible -/
def posB (N : Nat → Int) (I O : Nat → Bool) (k : Nat) : Bool := decide (stI (N k) (I k) (O k) < 5)
set_option linter.unusedSimpArgs false in
set_option maxHeartbeats 1000000 in
theorem blkPossible_any (b off n c : Nat) (N : Nat → Int) (I O : Nat → Bool) (w : World) (hn : n ≤ 1000000000000) (hc : BkC w b off n N I O) (hb : b < w.heap.size) :
    Calls Try.prog 82 #[.slice (some ⟨b, off, none⟩) n c] w fun e w' => e = .returned (.bool (inB n 1 5 && allB n (posB N I O))) ∧ Below w.heap.size w w' := by
  have HC := Lib.hid hc
  have HB := Lib.hid hb
  clear hc hb
  by_cases h1 : inB n 1 5 = true
  · go_enter Try.func82, Try.ntmps82
    go_wp2_with fail
    refine (sectionsValid_any _ _ (by omega)).mono ?_
    rintro e w' ⟨rfl, rfl⟩
    rw [h1]
    have H1 := Lib.hid h1
    clear h1
    go_wp2_with fail
    go_loopw [4, 11] (fun _ si wr => ∃ k : Nat, k ≤ n ∧ si = .int .i64 k ∧ Hid (∀ j, j < k → posB N I O j = true) ∧ Hid (Below w.heap.size w wr)) (fun _ si _ => n - (intOf si).toNat)
    case atStart => exact ⟨0, Nat.zero_le _, rfl, Lib.hid (fun j hj => by omega), Lib.hid (Below.refl _ _)⟩
    case round =>
      obtain ⟨k, hk, rfl, HA, HW⟩ := hrel
      by_cases hlt : k < n
      · obtain ⟨c0, c1, c2⟩ := (HC.out.below HW.out HB.out).at k hlt
        have HWB : Hid (∀ a, Below w.heap.size w (wr.alloc a)) := fun a => HW.out.alloc HW.out.size _
        by_cases h2 : posB N I O k = true
        · have HE := Lib.hid h2
          have h3 : decide (stI (N k) (I k) (O k) < 5) = true := h2
          clear h2
          go_wp2_with fail
          refine (possible_any _ _ _ _).mono ?_
          rintro e w2 ⟨rfl, hb⟩
          have HB2 := Lib.hid ((HWB.out _).trans (hb.mono (by have := HW.out.size; simp; omega)))
          clear hb
          rw [h3]
          go_wp2_with fail
          go_roundw
          case rel => exact ⟨k + 1, by omega, by go_num, Lib.hid (fun j hj => by
              by_cases e : j = k
              · rw [e]; exact HE.out
              · exact HA.out j (by omega)), HB2⟩
          case measure => simp [intOf]; omega
        · have HE : Hid (allB n (posB N I O) = false) := allB_not hlt (by simpa using h2)
          have h3 : decide (stI (N k) (I k) (O k) < 5) = false := by simpa [posB] using h2
          clear h2
          go_wp2_with fail
          refine (possible_any _ _ _ _).mono ?_
          rintro e w2 ⟨rfl, hb⟩
          have HB2 := Lib.hid ((HWB.out _).trans (hb.mono (by have := HW.out.size; simp; omega)))
          clear hb
          rw [h3]
          go_wp2_with fail
          go_ret
          exact ⟨retB (by rw [H1.out, HE.out]; rfl), HB2.out⟩
      · have e : k = n := by omega
        subst e
        go_wp2_with fail
        go_ret
        exact ⟨retB (by rw [H1.out, allB_of HA.out]; rfl), HW.out⟩
  · replace h1 := eq_false_of_ne_true h1
    go_enter Try.func82, Try.ntmps82
    go_wp2_with fail
    refine (sectionsValid_any _ _ (by omega)).mono ?_
    rintro e w' ⟨rfl, rfl⟩
    rw [h1]
    have H1 := Lib.hid h1
    clear h1
    go_wp2_with fail
    go_ret
    exact ⟨retB (by rw [H1.out]; rfl), Below.refl _ _⟩
/-- the events that a section still needs -/
def lefV (n : Int) (i o : Bool) (t : Nat) : Int :=
  if o = true ∧ 0 < t then 5 * t - 1 else if n = 1 ∧ 0 < t then 5 * t - 2 else if i = true then 5 * t + 2 else if n = 0 ∧ i = false ∧ o = false then 5 * t else 5 * t + 1
set_option linter.unusedSimpArgs false in
set_option maxHeartbeats 2000000 in
theorem left_any (b off n c : Nat) (N : Nat → Int) (I O : Nat → Bool) (k t : Nat) (w : World) (ht : t ≤ 1000000) (hk : k < n) (hc : BkC w b off n N I O) :
    Calls Try.prog 93 #[.slice (some ⟨b, off, none⟩) n c, .int .i64 k, .int .i64 t] w fun e w' => e = .returned (.int .i64 (lefV (N k) (I k) (O k) t)) ∧ Below w.heap.size w w' := by
  have HW : Hid (∀ a, Below w.heap.size w (w.alloc a)) := fun a => below_all _ _
  obtain ⟨c0, c1, c2⟩ := hc k hk
  clear hc
  revert c0 c1 c2
  generalize N k = x
  generalize I k = i
  generalize O k = o
  intro c0 c1 c2
  cases i <;> cases o
  · rcases Nat.eq_zero_or_pos t with h0 | h0
    · subst h0
      by_cases h1 : x = 1
      · subst h1
        have HV : Hid (lefV 1 false false 0 = (if false = true then 2 else 1)) := rfl
        go_enter Try.func93, Try.ntmps93
        go_wp2_with fail
        go_ret
        exact ⟨by rw [HV.out]; first | rfl | (simp; done) | (simp; omega), HW.out _⟩
      · have g1 : (x == 1) = false := by simp [h1]
        by_cases h2 : x = 0
        · subst h2
          have HV : Hid (lefV 0 false false 0 = (if false = true then 2 else if false = true then 1 else 0)) := rfl
          clear g1 h1
          go_enter Try.func93, Try.ntmps93
          go_wp2_with fail
          go_ret
          exact ⟨by rw [HV.out]; first | rfl | (simp; done) | (simp; omega), HW.out _⟩
        · have g2 : (x == 0) = false := by simp [h2]
          have HV : Hid (lefV x false false 0 = (if false = true then 2 else 1)) := by show _ = _; simp [lefV, h1, h2]
          go_enter Try.func93, Try.ntmps93
          go_wp2_with fail
          go_ret
          exact ⟨by rw [HV.out]; first | rfl | (simp; done) | (simp; omega), HW.out _⟩
    · have g0 : (0 : Int) < (t : Int) := by omega
      by_cases h1 : x = 1
      · subst h1
        have HV : Hid (lefV 1 false false t = 5 * t - (if false = true then 1 else 2)) := by show _ = _; simp [lefV, h0]
        go_enter Try.func93, Try.ntmps93
        go_wp2_with fail
        go_ret
        exact ⟨by rw [HV.out]; first | rfl | (simp; done) | (simp; omega), HW.out _⟩
      · have g1 : (x == 1) = false := by simp [h1]
        by_cases h2 : x = 0
        · subst h2
          have HV : Hid (lefV 0 false false t = 5 * t + (if false = true then -1 else if false = true then 2 else 0)) := by show _ = _; simp [lefV, h0]; try omega
          clear g1 h1
          go_enter Try.func93, Try.ntmps93
          go_wp2_with fail
          go_ret
          exact ⟨by rw [HV.out]; first | rfl | (simp; done) | (simp; omega), HW.out _⟩
        · have g2 : (x == 0) = false := by simp [h2]
          have HV : Hid (lefV x false false t = 5 * t + (if false = true then -1 else if false = true then 2 else 1)) := by show _ = _; simp [lefV, h0, h1, h2]; try omega
          go_enter Try.func93, Try.ntmps93
          go_wp2_with fail
          go_ret
          exact ⟨by rw [HV.out]; first | rfl | (simp; done) | (simp; omega), HW.out _⟩
  · rcases Nat.eq_zero_or_pos t with h0 | h0
    · subst h0
      by_cases h1 : x = 1
      · subst h1
        have HV : Hid (lefV 1 false true 0 = (if false = true then 2 else 1)) := rfl
        go_enter Try.func93, Try.ntmps93
        go_wp2_with fail
        go_ret
        exact ⟨by rw [HV.out]; first | rfl | (simp; done) | (simp; omega), HW.out _⟩
      · have g1 : (x == 1) = false := by simp [h1]
        by_cases h2 : x = 0
        · subst h2
          have HV : Hid (lefV 0 false true 0 = (if false = true then 2 else if true = true then 1 else 0)) := rfl
          clear g1 h1
          go_enter Try.func93, Try.ntmps93
          go_wp2_with fail
          go_ret
          exact ⟨by rw [HV.out]; first | rfl | (simp; done) | (simp; omega), HW.out _⟩
        · have g2 : (x == 0) = false := by simp [h2]
          have HV : Hid (lefV x false true 0 = (if false = true then 2 else 1)) := by show _ = _; simp [lefV, h1, h2]
          go_enter Try.func93, Try.ntmps93
          go_wp2_with fail
          go_ret
          exact ⟨by rw [HV.out]; first | rfl | (simp; done) | (simp; omega), HW.out _⟩
    · have g0 : (0 : Int) < (t : Int) := by omega
      by_cases h1 : x = 1
      · subst h1
        have HV : Hid (lefV 1 false true t = 5 * t - (if true = true then 1 else 2)) := by show _ = _; simp [lefV, h0]
        go_enter Try.func93, Try.ntmps93
        go_wp2_with fail
        go_ret
        exact ⟨by rw [HV.out]; first | rfl | (simp; done) | (simp; omega), HW.out _⟩
      · have g1 : (x == 1) = false := by simp [h1]
        by_cases h2 : x = 0
        · subst h2
          have HV : Hid (lefV 0 false true t = 5 * t + (if true = true then -1 else if false = true then 2 else 0)) := by show _ = _; simp [lefV, h0]; try omega
          clear g1 h1
          go_enter Try.func93, Try.ntmps93
          go_wp2_with fail
          go_ret
          exact ⟨by rw [HV.out]; first | rfl | (simp; done) | (simp; omega), HW.out _⟩
        · have g2 : (x == 0) = false := by simp [h2]
          have HV : Hid (lefV x false true t = 5 * t + (if true = true then -1 else if false = true then 2 else 1)) := by show _ = _; simp [lefV, h0, h1, h2]; try omega
          go_enter Try.func93, Try.ntmps93
          go_wp2_with fail
          go_ret
          exact ⟨by rw [HV.out]; first | rfl | (simp; done) | (simp; omega), HW.out _⟩
  · rcases Nat.eq_zero_or_pos t with h0 | h0
    · subst h0
      by_cases h1 : x = 1
      · subst h1
        have HV : Hid (lefV 1 true false 0 = (if true = true then 2 else 1)) := rfl
        go_enter Try.func93, Try.ntmps93
        go_wp2_with fail
        go_ret
        exact ⟨by rw [HV.out]; first | rfl | (simp; done) | (simp; omega), HW.out _⟩
      · have g1 : (x == 1) = false := by simp [h1]
        by_cases h2 : x = 0
        · subst h2
          have HV : Hid (lefV 0 true false 0 = (if true = true then 2 else if false = true then 1 else 0)) := rfl
          clear g1 h1
          go_enter Try.func93, Try.ntmps93
          go_wp2_with fail
          go_ret
          exact ⟨by rw [HV.out]; first | rfl | (simp; done) | (simp; omega), HW.out _⟩
        · have g2 : (x == 0) = false := by simp [h2]
          have HV : Hid (lefV x true false 0 = (if true = true then 2 else 1)) := by show _ = _; simp [lefV, h1, h2]
          go_enter Try.func93, Try.ntmps93
          go_wp2_with fail
          go_ret
          exact ⟨by rw [HV.out]; first | rfl | (simp; done) | (simp; omega), HW.out _⟩
    · have g0 : (0 : Int) < (t : Int) := by omega
      by_cases h1 : x = 1
      · subst h1
        have HV : Hid (lefV 1 true false t = 5 * t - (if false = true then 1 else 2)) := by show _ = _; simp [lefV, h0]
        go_enter Try.func93, Try.ntmps93
        go_wp2_with fail
        go_ret
        exact ⟨by rw [HV.out]; first | rfl | (simp; done) | (simp; omega), HW.out _⟩
      · have g1 : (x == 1) = false := by simp [h1]
        by_cases h2 : x = 0
        · subst h2
          have HV : Hid (lefV 0 true false t = 5 * t + (if false = true then -1 else if true = true then 2 else 0)) := by show _ = _; simp [lefV, h0]; try omega
          clear g1 h1
          go_enter Try.func93, Try.ntmps93
          go_wp2_with fail
          go_ret
          exact ⟨by rw [HV.out]; first | rfl | (simp; done) | (simp; omega), HW.out _⟩
        · have g2 : (x == 0) = false := by simp [h2]
          have HV : Hid (lefV x true false t = 5 * t + (if false = true then -1 else if true = true then 2 else 1)) := by show _ = _; simp [lefV, h0, h1, h2]; try omega
          go_enter Try.func93, Try.ntmps93
          go_wp2_with fail
          go_ret
          exact ⟨by rw [HV.out]; first | rfl | (simp; done) | (simp; omega), HW.out _⟩
  · rcases Nat.eq_zero_or_pos t with h0 | h0
    · subst h0
      by_cases h1 : x = 1
      · subst h1
        have HV : Hid (lefV 1 true true 0 = (if true = true then 2 else 1)) := rfl
        go_enter Try.func93, Try.ntmps93
        go_wp2_with fail
        go_ret
        exact ⟨by rw [HV.out]; first | rfl | (simp; done) | (simp; omega), HW.out _⟩
      · have g1 : (x == 1) = false := by simp [h1]
        by_cases h2 : x = 0
        · subst h2
          have HV : Hid (lefV 0 true true 0 = (if true = true then 2 else if true = true then 1 else 0)) := rfl
          clear g1 h1
          go_enter Try.func93, Try.ntmps93
          go_wp2_with fail
          go_ret
          exact ⟨by rw [HV.out]; first | rfl | (simp; done) | (simp; omega), HW.out _⟩
        · have g2 : (x == 0) = false := by simp [h2]
          have HV : Hid (lefV x true true 0 = (if true = true then 2 else 1)) := by show _ = _; simp [lefV, h1, h2]
          go_enter Try.func93, Try.ntmps93
          go_wp2_with fail
          go_ret
          exact ⟨by rw [HV.out]; first | rfl | (simp; done) | (simp; omega), HW.out _⟩
    · have g0 : (0 : Int) < (t : Int) := by omega
      by_cases h1 : x = 1
      · subst h1
        have HV : Hid (lefV 1 true true t = 5 * t - (if true = true then 1 else 2)) := by show _ = _; simp [lefV, h0]
        go_enter Try.func93, Try.ntmps93
        go_wp2_with fail
        go_ret
        exact ⟨by rw [HV.out]; first | rfl | (simp; done) | (simp; omega), HW.out _⟩
      · have g1 : (x == 1) = false := by simp [h1]
        by_cases h2 : x = 0
        · subst h2
          have HV : Hid (lefV 0 true true t = 5 * t + (if true = true then -1 else if true = true then 2 else 0)) := by show _ = _; simp [lefV, h0]; try omega
          clear g1 h1
          go_enter Try.func93, Try.ntmps93
          go_wp2_with fail
          go_ret
          exact ⟨by rw [HV.out]; first | rfl | (simp; done) | (simp; omega), HW.out _⟩
        · have g2 : (x == 0) = false := by simp [h2]
          have HV : Hid (lefV x true true t = 5 * t + (if true = true then -1 else if true = true then 2 else 1)) := by show _ = _; simp [lefV, h0, h1, h2]; try omega
          go_enter Try.func93, Try.ntmps93
          go_wp2_with fail
          go_ret
          exact ⟨by rw [HV.out]; first | rfl | (simp; done) | (simp; omega), HW.out _⟩
end Go.Proofs.Ytbachpfgakjncaa
