/-
  Walks over orders: texts of U and D.
-/
import Derived.Test.YtnhkijfibiffnaaD
namespace Go.Proofs.Ytnhkijfibiffnaa
open Go.RowKit

/-- byte k of a text as a number -/
def bt (s : ByteArray) (k : Nat) : Int := if h : k < s.size then (s[k].toNat : Int) else 0
theorem bt_at {s : ByteArray} {k : Nat} (h : k < s.size) : (s[k].toNat : Int) = bt s k := by simp [bt, h]

/-- a letter of a direction -/
def isDir (c : Int) : Bool := c == 85 || c == 68
theorem isDir_true {c : Int} : isDir c = true ↔ c = 85 ∨ c = 68 := by simp [isDir]
theorem isDir_false {c : Int} : isDir c = false ↔ ¬ c = 85 ∧ ¬ c = 68 := by simp [isDir]
/-- how many letters U stand ahead of place k -/
def cntU (c : Nat → Int) : Nat → Nat
  | 0 => 0
  | k + 1 => if c k = 85 then cntU c k + 1 else cntU c k
theorem cntU_le (c : Nat → Int) : ∀ k, cntU c k ≤ k
  | 0 => Nat.le_refl _
  | k + 1 => by have := cntU_le c k; simp only [cntU]; split <;> omega
theorem cntU_U {c : Nat → Int} {k : Nat} (h : c k = 85) : cntU c (k + 1) = cntU c k + 1 := by simp [cntU, h]
theorem cntU_D {c : Nat → Int} {k : Nat} (h : ¬ c k = 85) : cntU c (k + 1) = cntU c k := by simp [cntU, h]
theorem cntU_mono (c : Nat → Int) (j : Nat) : ∀ k, j ≤ k → cntU c j ≤ cntU c k := by
  intro k h
  induction k with
  | zero => obtain rfl : j = 0 := by omega
            exact Nat.le_refl _
  | succ k ih =>
    by_cases e : j = k + 1
    · subst e; exact Nat.le_refl _
    · have := ih (by omega)
      simp only [cntU]; split <;> omega

/-- what DirectionsValid answers -/
def dirV (s : ByteArray) : Bool := allB s.size (fun k => isDir (bt s k)) && decide (s.size ≤ 30)
theorem dirV_not {s : ByteArray} {k : Nat} (hk : k < s.size) (h : isDir (bt s k) = false) : dirV s = false := by unfold dirV; rw [allB_not hk h]; rfl
theorem dirV_end {s : ByteArray} (h : ∀ k, k < s.size → isDir (bt s k) = true) : dirV s = decide (s.size ≤ 30) := by unfold dirV; rw [allB_of h]; rfl

theorem dirs_any (s : ByteArray) (w : World) (hs : s.size ≤ 1048576) :
    Calls Try.prog 83 #[.string s] w fun e w' => e = .returned (.bool (dirV s)) ∧ w = w' := by
  go_enter Try.func83, Try.ntmps83
  go_wp2
  go_loop [3] (fun i => ∃ k : Nat, k ≤ s.size ∧ i = .int .i64 k ∧ ∀ j, j < k → isDir (bt s j) = true) (fun i => s.size - (intOf i).toNat)
  case atStart => exact ⟨0, Nat.zero_le _, rfl, fun j hj => by omega⟩
  case round =>
    obtain ⟨k, hk, rfl, hall⟩ := hrel
    have HA := Lib.hid hall
    clear hall
    by_cases hlt : k < s.size
    · have hbt := bt_at hlt
      cases hd : isDir (bt s k)
      · have h2 := isDir_false.1 hd
        have HD := Lib.hid hd
        clear hd
        have g1 : (bt s k != 85) = true := by simp [h2.1]
        have g2 : (bt s k != 68) = true := by simp [h2.2]
        clear h2
        go_wp2
        go_ret
        exact ⟨retB (dirV_not hlt HD.out).symm, rfl⟩
      · have HD := Lib.hid hd
        rcases isDir_true.1 hd with h2 | h2
        · have g1 : (bt s k != 85) = false := by simp [h2]
          clear hd h2
          go_wp2
          go_round
          case rel => exact ⟨k + 1, by omega, by go_num, fun j hj => by
            by_cases e : j = k
            · rw [e]; exact HD.out
            · exact HA.out j (by omega)⟩
          case measure => simp [intOf]; omega
        · have g1 : (bt s k != 85) = true := by simp [h2]
          have g2 : (bt s k != 68) = false := by simp [h2]
          clear hd h2
          go_wp2
          go_round
          case rel => exact ⟨k + 1, by omega, by go_num, fun j hj => by
            by_cases e : j = k
            · rw [e]; exact HD.out
            · exact HA.out j (by omega)⟩
          case measure => simp [intOf]; omega
    · have e : k = s.size := by omega
      have H1 : Hid (dirV s = decide (s.size ≤ 30)) := dirV_end (fun j hj => HA.out j (by omega))
      subst e
      go_wp2
      go_ret
      exact ⟨retB (by rw [H1.out]; simp; omega), rfl⟩

/-- a text is an order of the trains of a line -/
def ordOk (x : Sg) (s : ByteArray) : Bool := allB s.size (fun k => isDir (bt s k)) && (decide (cntU (bt s) s.size = x.na) && decide (s.size = x.na + x.nb))
theorem ordOk_true {x : Sg} {s : ByteArray} : ordOk x s = true ↔ (∀ k, k < s.size → bt s k = 85 ∨ bt s k = 68) ∧ cntU (bt s) s.size = x.na ∧ s.size = x.na + x.nb := by
  simp [ordOk, allB_true, isDir_true]
theorem ordOk_cnt {x : Sg} {s : ByteArray} (h : ¬ cntU (bt s) s.size = x.na) : ordOk x s = false := by simp [ordOk, h]
theorem ordOk_len {x : Sg} {s : ByteArray} (h : ¬ s.size = x.na + x.nb) : ordOk x s = false := by simp [ordOk, h]
theorem ordOk_dir {x : Sg} {s : ByteArray} {k : Nat} (hk : k < s.size) (h : isDir (bt s k) = false) : ordOk x s = false := by unfold ordOk; rw [allB_not hk h]; rfl

theorem l8Order_any (v : Value) (s : ByteArray) (x : Sg) (w : World) (hv : SgV w v x) (hs : s.size ≤ 1048576) (ha : x.na ≤ 6) (hb : x.nb ≤ 6) :
    Calls Try.prog 72 #[v, .string s] w fun e w' => e = .returned (.bool (ordOk x s)) ∧ Below w.heap.size w w' := by
  have hbb : ∀ a, Below w.heap.size w (w.alloc a) := fun a => (Below.refl _ _).alloc (Nat.le_refl _) _
  obtain ⟨ba, oa, ca, bb, ob, cb, rfl, hca, hcb⟩ := hv
  obtain ⟨A, na, B, nb, run, head⟩ := x
  dsimp only at *
  clear hca hcb
  go_enter Try.func72, Try.ntmps72
  go_wp2
  go_loop [5, 6] (fun u i => ∃ k : Nat, k ≤ s.size ∧ i = .int .i64 k ∧ u = .int .i64 (cntU (bt s) k)) (fun _ i => s.size - (intOf i).toNat)
  case atStart => exact ⟨0, Nat.zero_le _, rfl, rfl⟩
  case round =>
    obtain ⟨k, hk, rfl, rfl⟩ := hrel
    have hcu := cntU_le (bt s) k
    by_cases hlt : k < s.size
    · have hbt := bt_at hlt
      by_cases h2 : bt s k = 85
      · have HC := Lib.hid (cntU_U h2)
        have g1 : (bt s k == 85) = true := by simp [h2]
        clear h2
        go_wp2
        go_round
        case rel => exact ⟨k + 1, by omega, by go_num, by rw [HC.out]; go_num⟩
        case measure => simp [intOf]; omega
      · have HC := Lib.hid (cntU_D h2)
        have g1 : (bt s k == 85) = false := by simp [h2]
        clear h2
        go_wp2
        go_round
        case rel => exact ⟨k + 1, by omega, by go_num, by rw [HC.out]⟩
        case measure => simp [intOf]; omega
    · obtain rfl : k = s.size := by omega
      cases hd : dirV s
      · have hf : ordOk ⟨A, na, B, nb, run, head⟩ s = false := by
          by_cases hl : s.size = na + nb
          · have h3 : s.size ≤ 30 := by omega
            cases ha : allB s.size (fun k => isDir (bt s k))
            · simp [ordOk, ha]
            · simp [dirV, ha, h3] at hd
          · exact ordOk_len hl
        have HD := Lib.hid hd
        have HF := Lib.hid hf
        clear hd hf
        go_wp2_with fail
        refine (dirs_any _ _ hs).mono ?_
        rintro e w' ⟨rfl, rfl⟩
        rw [HD.out]
        go_wp2_with fail
        go_ret
        exact ⟨retB HF.out.symm, hbb _⟩
      · have HD := Lib.hid hd
        have hall : allB s.size (fun k => isDir (bt s k)) = true := by
          simp only [dirV, Bool.and_eq_true] at hd
          exact hd.1
        clear hd
        by_cases hu : cntU (bt s) s.size = na
        · have g1 : ((cntU (bt s) s.size : Int) == (na : Int)) = true := by simp [hu]
          have hf : ordOk ⟨A, na, B, nb, run, head⟩ s = decide (s.size = na + nb) := by simp [ordOk, hall, hu]
          have HF := Lib.hid hf
          clear hf hall hu
          by_cases hl : s.size = na + nb
          · have g2 : ((s.size : Int) == (na : Int) + (nb : Int)) = true := by simp; omega
            have HL := Lib.hid hl
            clear hl
            go_wp2_with fail
            refine (dirs_any _ _ hs).mono ?_
            rintro e w' ⟨rfl, rfl⟩
            rw [HD.out]
            go_wp2_with fail
            go_ret
            exact ⟨retB (by rw [HF.out]; simp [HL.out]), hbb _⟩
          · have g2 : ((s.size : Int) == (na : Int) + (nb : Int)) = false := by simp; omega
            have HL := Lib.hid hl
            clear hl
            go_wp2_with fail
            refine (dirs_any _ _ hs).mono ?_
            rintro e w' ⟨rfl, rfl⟩
            rw [HD.out]
            go_wp2_with fail
            go_ret
            exact ⟨retB (by rw [HF.out]; simp [HL.out]), hbb _⟩
        · have g1 : ((cntU (bt s) s.size : Int) == (na : Int)) = false := by simp; omega
          have HF : Hid (ordOk ⟨A, na, B, nb, run, head⟩ s = false) := ordOk_cnt hu
          clear hu hall
          go_wp2_with fail
          refine (dirs_any _ _ hs).mono ?_
          rintro e w' ⟨rfl, rfl⟩
          rw [HD.out]
          go_wp2_with fail
          go_ret
          exact ⟨retB HF.out.symm, hbb _⟩

theorem isOrder_any (v : Value) (s : ByteArray) (x : Sg) (w : World) (hv : SgV w v x) (hs : s.size ≤ 1048576) (ha : x.na ≤ 6) (hb : x.nb ≤ 6) :
    Calls Try.prog 64 #[v, .string s] w fun e w' => e = .returned (.bool (ordOk x s)) ∧ Below w.heap.size w w' := by
  have hbb : ∀ a, Below w.heap.size w (w.alloc a) := fun a => (Below.refl _ _).alloc (Nat.le_refl _) _
  obtain ⟨ba, oa, ca, bb, ob, cb, rfl, hca, hcb⟩ := hv
  obtain ⟨A, na, B, nb, run, head⟩ := x
  dsimp only at *
  clear hca hcb
  by_cases hl : s.size = na + nb
  · have g2 : ((s.size : Int) != (na : Int) + (nb : Int)) = false := by simp; omega
    have HL := Lib.hid hl
    clear hl
    go_enter Try.func64, Try.ntmps64
    go_wp2
    go_loop [5, 19] (fun u i => ∃ k : Nat, k ≤ s.size ∧ i = .int .i64 k ∧ u = .int .i64 (cntU (bt s) k) ∧ ∀ j, j < k → isDir (bt s j) = true) (fun _ i => s.size - (intOf i).toNat)
    case atStart => exact ⟨0, Nat.zero_le _, rfl, rfl, fun j hj => by omega⟩
    case round =>
      obtain ⟨k, hk, rfl, rfl, hall⟩ := hrel
      have HA := Lib.hid hall
      clear hall
      have hcu := cntU_le (bt s) k
      by_cases hlt : k < s.size
      · have hbt := bt_at hlt
        by_cases h2 : bt s k = 85
        · have HC := Lib.hid (cntU_U h2)
          have H2 := Lib.hid h2
          have g1 : (bt s k == 85) = true := by simp [h2]
          clear h2
          go_wp2
          go_round
          case rel => exact ⟨k + 1, by omega, by go_num, by rw [HC.out]; go_num, fun j hj => by
            by_cases e : j = k
            · rw [e]; exact isDir_true.2 (.inl H2.out)
            · exact HA.out j (by omega)⟩
          case measure => simp [intOf]; omega
        · have HC := Lib.hid (cntU_D h2)
          have H2 := Lib.hid h2
          have g1 : (bt s k == 85) = false := by simp [h2]
          clear h2
          by_cases h3 : bt s k = 68
          · have H3 := Lib.hid h3
            have g3 : (bt s k == 68) = true := by simp [h3]
            clear h3
            go_wp2
            go_round
            case rel => exact ⟨k + 1, by omega, by go_num, by rw [HC.out], fun j hj => by
              by_cases e : j = k
              · rw [e]; exact isDir_true.2 (.inr H3.out)
              · exact HA.out j (by omega)⟩
            case measure => simp [intOf]; omega
          · have H3 := Lib.hid h3
            have g3 : (bt s k == 68) = false := by simp [h3]
            clear h3
            go_wp2
            go_ret
            exact ⟨retB (ordOk_dir hlt (isDir_false.2 ⟨H2.out, H3.out⟩)).symm, hbb _⟩
      · obtain rfl : k = s.size := by omega
        have hall : allB s.size (fun k => isDir (bt s k)) = true := allB_of HA.out
        have HF : Hid (ordOk ⟨A, na, B, nb, run, head⟩ s = decide (cntU (bt s) s.size = na)) := by
          show ordOk _ _ = _
          simp only [ordOk, hall, decide_eq_true HL.out, Bool.true_and, Bool.and_true]
        clear hall
        by_cases hu : cntU (bt s) s.size = na
        · have g1 : ((cntU (bt s) s.size : Int) == (na : Int)) = true := by simp [hu]
          have HU := Lib.hid hu
          clear hu
          go_wp2
          go_ret
          exact ⟨retB (by rw [HF.out]; simp [HU.out]), hbb _⟩
        · have g1 : ((cntU (bt s) s.size : Int) == (na : Int)) = false := by simp; omega
          have HU := Lib.hid hu
          clear hu
          go_wp2
          go_ret
          exact ⟨retB (by rw [HF.out]; simp [HU.out]), hbb _⟩
  · have g2 : ((s.size : Int) != (na : Int) + (nb : Int)) = true := by simp; omega
    have HF : Hid (ordOk ⟨A, na, B, nb, run, head⟩ s = false) := ordOk_len hl
    clear hl
    go_enter Try.func64, Try.ntmps64
    go_wp2
    go_ret
    exact ⟨retB HF.out.symm, hbb _⟩
end Go.Proofs.Ytnhkijfibiffnaa
