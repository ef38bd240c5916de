/-
  Walks of the helpers of the exact laws on lines: marks.
-/
import Derived.Test.YtbachpfgakjncaaEc
import Derived.Lib.SlBytesRow
namespace Go.Proofs.Ytbachpfgakjncaa
open Go.RowKit

def mkN (m : Int) (i : Nat) : Int := m + 3 * i
def mkI (m : Int) (i : Nat) : Bool := (m + 3 * i + 1) % 3 == 0
def mkO (m : Int) (i : Nat) : Bool := (m + 3 * i + 1 + 1) % 3 == 0
theorem upd_stepF {α : Type} (f z : Nat → α) (k : Nat) : upd (fun i => if i < k then f i else z i) k (f k) = fun i => if i < k + 1 then f i else z i := by
  funext i
  unfold upd
  by_cases e : i = k
  · subst e; simp
  · have : i < k + 1 ↔ i < k := by omega
    simp [e, this]
set_option linter.unusedSimpArgs false in
theorem markBlockS_any (g c n : Nat) (N : Nat → Int) (I O : Nat → Bool) (m : Int) (w : World) (hn : n ≤ 1000000000) (h0 : 0 ≤ m) (h1 : m ≤ 1000000000) (ho : Own w g c n 3 75 (bkF N I O)) :
    Calls Try.prog 61 #[.slice (some ⟨g, 0, none⟩) n c, .int .i64 m] w fun e w' => e = .returned (.int .i64 (m + 3 * n)) ∧ Own w' g c n 3 75 (bkF (mkN m) (mkI m) (mkO m)) ∧ w.grownBy w' (some g) := by
  have HO0 := Lib.hid ho
  clear ho
  go_enter Try.func61, Try.ntmps61
  go_wp2_with fail
  go_loopw [1, 5] (fun l i wr => ∃ k : Nat, k ≤ n ∧ i = .int .i64 k ∧ l = .int .i64 (m + 3 * k) ∧ Hid (Own wr g c n 3 75 (bkF (fun i => if i < k then mkN m i else N i) (fun i => if i < k then mkI m i else I i) (fun i => if i < k then mkO m i else O i))) ∧ Hid (w.grownBy wr (some g))) (fun _ i _ => n - (intOf i).toNat)
  case atStart => exact ⟨0, Nat.zero_le _, rfl, by go_num, HO0.out.congr (bkF_congr (by simp) (by simp) (by simp)), World.grownBy.refl _ _⟩
  case round =>
    obtain ⟨k, hk, rfl, rfl, HO, HG⟩ := hrel
    by_cases hlt : k < n
    · have hcg := HO.out.bl hlt
      have hfg := HO.out.free
      have HS : Hid (Own (((wr.setCell ⟨g, k * 3, none⟩ (.int .i64 (m + 3 * k))).setCell ⟨g, k * 3 + 1, none⟩ (.bool ((m + 3 * k + 1) % 3 == 0))).setCell ⟨g, k * 3 + 2, none⟩ (.bool ((m + 3 * k + 1 + 1) % 3 == 0))) g c n 3 75 (bkF (fun i => if i < k + 1 then mkN m i else N i) (fun i => if i < k + 1 then mkI m i else I i) (fun i => if i < k + 1 then mkO m i else O i))) := by
        have h := HO.out.setBk k (mkN m k) (mkI m k) (mkO m k)
        rw [upd_stepF, upd_stepF, upd_stepF] at h
        exact h
      go_wp2_with fail
      go_roundw
      case rel => exact ⟨k + 1, by omega, by go_num, by go_num, HS, grownBy_trans HG.out (grownBy_trans (grownBy_trans (grownBy_setCell _ _ _ _) (grownBy_setCell _ _ _ _)) (grownBy_setCell _ _ _ _))⟩
      case measure => simp [intOf]; omega
    · obtain e : k = n := by omega
      subst e
      go_wp2_with fail
      go_ret
      exact ⟨rfl, HO.out.congr (bkF_congr (fun i hi => by simp [hi]) (fun i hi => by simp [hi]) (fun i hi => by simp [hi])), HG.out⟩
set_option linter.unusedSimpArgs false in
theorem heldBlockS_marks (g c n : Nat) (m : Int) (w : World) (hn : n ≤ 1000000000) (h0 : 0 ≤ m) (h1 : m ≤ 1000000000) (ho : Own w g c n 3 75 (bkF (mkN m) (mkI m) (mkO m))) :
    Calls Try.prog 76 #[.slice (some ⟨g, 0, none⟩) n c, .int .i64 m] w fun e w' => e = .returned (.int .i64 (m + 3 * n)) ∧ w = w' := by
  have HO := Lib.hid ho
  clear ho
  go_enter Try.func76, Try.ntmps76
  go_wp2_with fail
  go_loop [1, 5] (fun l i => ∃ k : Nat, k ≤ n ∧ i = .int .i64 k ∧ l = .int .i64 (m + 3 * k)) (fun _ i => n - (intOf i).toNat)
  case atStart => exact ⟨0, Nat.zero_le _, rfl, by go_num⟩
  case round =>
    obtain ⟨k, hk, rfl, rfl⟩ := hrel
    by_cases hlt : k < n
    · have hcg : w.cell? ⟨g, k * 3, none⟩ = some (.int .i64 (m + 3 * k)) ∧ w.cell? ⟨g, k * 3 + 1, none⟩ = some (.bool ((m + 3 * k + 1) % 3 == 0)) ∧ w.cell? ⟨g, k * 3 + 2, none⟩ = some (.bool ((m + 3 * k + 1 + 1) % 3 == 0)) := HO.out.bl hlt
      obtain ⟨c0, c1, c2⟩ := hcg
      have e1 : (m + 3 * (k : Int) != m + 3 * (k : Int)) = false := by simp
      cases b1 : ((m + 3 * (k : Int) + 1) % 3 == 0) <;> cases b2 : ((m + 3 * (k : Int) + 1 + 1) % 3 == 0)
      all_goals
        rw [b1] at c1
        rw [b2] at c2
        go_wp2_with fail
        go_round
        case rel => exact ⟨k + 1, by omega, by go_num, by go_num⟩
        case measure => simp [intOf]; omega
    · obtain e : k = n := by omega
      subst e
      go_wp2_with fail
      go_ret
      exact ⟨rfl, rfl⟩
/-- a digit -/
def dgC (d : Nat) : UInt8 := UInt8.ofNat (48 + d)
/-- digits ahead of a text -/
def mkDg : Nat → Nat → ByteArray → ByteArray
  | 0, _, out => out
  | f + 1, k, out => if k = 0 then out else mkDg f (k / 10) (chr (dgC (k % 10)) ++ out)
def mkT (k : Nat) : ByteArray := if k = 0 then ⟨#[109, 48]⟩ else ⟨#[109]⟩ ++ mkDg k k ⟨#[]⟩
theorem mkDg_zero (f : Nat) (s : ByteArray) : mkDg f 0 s = s := by
  cases f <;> simp [mkDg]
theorem conv_dig (w : World) (d : Nat) (hd : d < 10) :
    (convert 22 9 (.slice (some ⟨w.heap.size, 0, none⟩) 1 1)).run Try.prog (w.alloc (.cells #[.int .u8 (48 + (d : Int))] 5)) = .ok (.string (chr (dgC d))) (w.alloc (.cells #[.int .u8 (48 + (d : Int))] 5)) := by
  have hb : Lib.Bytes (w.alloc (.cells #[.int .u8 (48 + (d : Int))] 5)) w.heap.size 0 (chr (dgC d)) := fun i hi => by
    have h1 : (chr (dgC d)).size = 1 := rfl
    obtain rfl : i = 0 := by omega
    rw [box_new]
    have h2 : ((chr (dgC d))[0]).toNat = 48 + d := by
      show (UInt8.ofNat (48 + d)).toNat = 48 + d
      rw [UInt8.toNat_ofNat']
      exact Nat.mod_eq_of_lt (by omega)
    rw [h2]
    simp
  exact Lib.run_convert_whole (P := Try.prog) _ 22 5 9 Try.underlying22 Try.underlying5 Try.underlying9 w.heap.size 0 (chr (dgC d)) hb 1
set_option maxRecDepth 100000 in
theorem markText_any (k : Nat) (w : World) (hk : k ≤ 1000000000000) :
    Calls Try.prog 63 #[.int .i64 k] w fun e w' => e = .returned (.string (mkT k)) ∧ Below w.heap.size w w' := by
  by_cases h0 : k = 0
  · subst h0
    go_enter Try.func63, Try.ntmps63
    go_wp2_with fail
    go_ret
    exact ⟨rfl, Below.refl _ _⟩
  · have hk0 : ¬ (k : Int) ≤ 0 := by omega
    have HT : Hid (mkT k = ⟨#[109]⟩ ++ mkDg k k ⟨#[]⟩) := if_neg h0
    go_enter Try.func63, Try.ntmps63
    go_wp2_with fail
    go_loopw [0, 3] (fun l o wr => ∃ j : Nat, ∃ s : ByteArray, l = .int .i64 j ∧ o = .string s ∧ s.size + j ≤ k ∧ Hid (∃ f, j ≤ f ∧ mkDg f j s = mkDg k k ⟨#[]⟩) ∧ Hid (Below w.heap.size w wr)) (fun l _ _ => (intOf l).toNat)
    case atStart => exact ⟨k, _, rfl, rfl, by show 0 + k ≤ k; omega, Lib.hid ⟨k, Nat.le_refl _, rfl⟩, Lib.hid (Below.refl _ _)⟩
    case round =>
      obtain ⟨j, s, rfl, rfl, hj, HD, HB⟩ := hrel
      by_cases hj0 : j = 0
      · subst hj0
        have hsz : ¬ 9223372036854775807 < 1 + s.size := by omega
        have HE : Hid (mkT k = ⟨#[109]⟩ ++ s) := by
          show _ = _
          obtain ⟨f, _, hf⟩ := HD.out
          rw [HT.out, ← hf, mkDg_zero]
        go_wp2_with fail
        go_ret
        exact ⟨congrArg (fun s => Ending.returned (.string s)) HE.out.symm, HB.out⟩
      · have hj1 : (0 : Int) < (j : Int) := by omega
        have hsz : ¬ 9223372036854775807 < (chr (dgC (j % 10))).size + s.size := by
          have : (chr (dgC (j % 10))).size = 1 := rfl
          omega
        have hcv := conv_dig wr (j % 10) (Nat.mod_lt _ (by omega))
        rw [show (48 : Int) + ((j % 10 : Nat) : Int) = 48 + (j : Int) % 10 by omega] at hcv
        have HN : Hid (∃ f, j / 10 ≤ f ∧ mkDg f (j / 10) (chr (dgC (j % 10)) ++ s) = mkDg k k ⟨#[]⟩) := by
          obtain ⟨f, hf, he⟩ := HD.out
          cases f with
          | zero => omega
          | succ f =>
            refine ⟨f, by omega, ?_⟩
            rw [← he]
            simp only [mkDg, if_neg hj0]
        have HB2 : Hid (∀ a, Below w.heap.size w (wr.alloc a)) := fun a => HB.out.alloc HB.out.size _
        have hjd : ((j / 10 : Nat) : Int) = (j : Int) / 10 := by omega
        have hjd := Lib.hid hjd
        go_wp2_with fail
        go_roundw
        case rel => exact ⟨j / 10, _, by rw [hjd.out], rfl, by
          have : (chr (dgC (j % 10)) ++ s).size = 1 + s.size := by rw [ByteArray.size_append]; rfl
          omega, HN, HB2.out _⟩
        case measure => simp [intOf]; omega
end Go.Proofs.Ytbachpfgakjncaa
