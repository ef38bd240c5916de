/-
  BlockRun and BlockLegal, of the program and of the reference.
-/
import Derived.Test.YtokddeoliieofaaBv
import Derived.Test.YtokddeoliieofaaBx
namespace Go.Proofs.Ytokddeoliieofaa
open Go.RowKit

/-- the state behind the letters of a text; 5 where there is none -/
def rnS (s : Nat) (l : List UInt8) : Nat := l.foldl (fun s c => nx s (c.toNat : Int)) s
theorem rnS_app (s : Nat) (a b : List UInt8) : rnS s (a ++ b) = rnS (rnS s a) b := List.foldl_append
theorem nx_five (c : Int) : nx 5 c = 5 := rfl
theorem rnS_five : ∀ l, rnS 5 l = 5
  | [] => rfl
  | _ :: l => rnS_five l
theorem rnS_le {s : Nat} (hs : s ≤ 5) : ∀ l, rnS s l ≤ 5
  | [] => hs
  | c :: l => rnS_le (nx_le s c.toNat) l
theorem rnS_take {s : Nat} {t : ByteArray} {k : Nat} (hk : k < t.size) : rnS s (t.data.toList.take (k + 1)) = nx (rnS s (t.data.toList.take k)) (bt t k) := by
  have hk' : k < t.data.toList.length := by simpa using hk
  rw [List.take_succ_eq_append_getElem hk', rnS_app]
  show nx _ ((t.data.toList[k]).toNat : Int) = _
  rw [← bt_at hk]
  rfl
theorem rnS_stop {s : Nat} {t : ByteArray} {k : Nat} (h : rnS s (t.data.toList.take k) = 5) : rnS s t.data.toList = 5 := by
  have e : t.data.toList = t.data.toList.take k ++ t.data.toList.drop k := (List.take_append_drop _ _).symm
  rw [e, rnS_app, h, rnS_five]
theorem rnS_all {s : Nat} {t : ByteArray} : rnS s (t.data.toList.take t.size) = rnS s t.data.toList := by
  rw [List.take_of_length_le (by simp)]
/-- the number of the state behind BlockRun -/
def brJ (n : Int) (i o : Bool) (t : ByteArray) : Nat := if t.size ≤ 30 then rnS (stI n i o) t.data.toList else 5
theorem stI_le (n : Int) (i o : Bool) : stI n i o ≤ 5 := by
  unfold stI
  repeat (first | omega | split)
theorem brJ_no {n : Int} {i o : Bool} {t : ByteArray} (h : ¬ stI n i o < 5) : brJ n i o t = 5 := by
  unfold brJ
  have := stI_le n i o
  rw [show stI n i o = 5 by omega, rnS_five]
  split <;> rfl
theorem brJ_long {n : Int} {i o : Bool} {t : ByteArray} (h : ¬ t.size ≤ 30) : brJ n i o t = 5 := if_neg h
theorem brJ_yes {n : Int} {i o : Bool} {t : ByteArray} (h : t.size ≤ 30) : brJ n i o t = rnS (stI n i o) t.data.toList := if_pos h
set_option linter.unusedSimpArgs false in
set_option maxRecDepth 100000 in
set_option maxHeartbeats 4000000 in
theorem implRun_any (n : Int) (i o : Bool) (t : ByteArray) (w : World) :
    Calls Try.prog 32 #[.agg #[.int .i64 n, .bool i, .bool o], .string t] w (BsRes (brJ n i o t) w) := by
  have HM0 := Lib.hid (BsM.new w n i o)
  by_cases h5 : ¬ stI n i o < 5
  · have HJ := Lib.hid (brJ_no (t := t) h5)
    have HD : Hid (decide (stI n i o < 5) = false) := decide_eq_false h5
    clear h5
    go_enter Try.func32, Try.ntmps32
    go_wp2_with fail
    refine (instr_any n i o _).mono ?_
    rintro e w1 ⟨rfl, hb⟩
    have HM := Lib.hid (HM0.out.below hb rfl)
    have hrc := HM.out.res.cell
    have hrf := HM.out.res.free
    clear hb
    rw [HD.out]
    go_wp2_with fail
    exact bodyPost_ret (v := .tuple #[.agg #[.int .i64 0, .bool false, .bool false], .bool false]) (by simp [results, Try.results32, go_sem, hrc]) rfl ⟨by rw [HJ.out]; rfl, HM.out.done _ _ _⟩
  replace h5 := Decidable.not_not.1 h5
  have HD : Hid (decide (stI n i o < 5) = true) := decide_eq_true h5
  have HIV := Lib.hid (inV_at h5)
  by_cases h30 : (30 : Int) < (t.size : Int)
  · have HJ := Lib.hid (brJ_long (n := n) (i := i) (o := o) (t := t) (by omega))
    go_enter Try.func32, Try.ntmps32
    go_wp2_with fail
    refine (instr_any n i o _).mono ?_
    rintro e w1 ⟨rfl, hb⟩
    have HM := Lib.hid (HM0.out.below hb rfl)
    have hrc := HM.out.res.cell
    have hrf := HM.out.res.free
    clear hb
    rw [HD.out]
    go_wp2_with fail
    exact bodyPost_ret (v := .tuple #[.agg #[.int .i64 0, .bool false, .bool false], .bool false]) (by simp [results, Try.results32, go_sem, hrc]) rfl ⟨by rw [HJ.out]; rfl, HM.out.done _ _ _⟩
  have HBJ := Lib.hid (brJ_yes (n := n) (i := i) (o := o) (t := t) (by omega))
  have HS5 := Lib.hid h5
  go_enter Try.func32, Try.ntmps32
  go_wp2_with fail
  refine (instr_any n i o _).mono ?_
  rintro e w1 ⟨rfl, hb⟩
  have HM := Lib.hid (HM0.out.below hb rfl)
  have hrc := HM.out.res.cell
  have hrf := HM.out.res.free
  clear hb
  rw [HD.out, HIV.out]
  go_wp2_with fail
  go_loop [6, 7, 8, 24] (fun s _ _ i' => ∃ k : Nat, k ≤ t.size ∧ i' = .int .i64 k ∧ ∃ q, Hid (rnS (stI n i o) (t.data.toList.take k) = q) ∧ q < 5 ∧ s = ifV q) (fun _ _ _ i' => t.size - (intOf i').toNat)
  case atStart => exact ⟨0, Nat.zero_le _, rfl, _, Lib.hid rfl, h5, rfl⟩
  case round =>
    obtain ⟨k, hk, rfl, q, HQ, hq5, rfl⟩ := hrel
    by_cases hlt : k < t.size
    · have hlt' : (k : Int) < (t.size : Int) := by omega
      have hbt := bt_at hlt
      have HNX : Hid (rnS (stI n i o) (t.data.toList.take (k + 1)) = nx q (bt t k)) := by show _ = _; rw [rnS_take hlt, HQ.out]
      go_wp2_with fail
      refine (stateBehind_any q (bt t k) _ hq5).mono ?_
      rintro e w2 ⟨rfl, rfl⟩
      by_cases hn : nx q (bt t k) < 5
      · have HV : Hid (sbV q (bt t k) = ifV (nx q (bt t k))) := if_pos hn
        have HN : Hid (decide (nx q (bt t k) < 5) = true) := decide_eq_true hn
        rw [HV.out, HN.out]
        go_wp2_with fail
        go_round
        case rel => exact ⟨k + 1, by omega, by go_num, _, HNX, hn, rfl⟩
        case measure => simp [intOf]; omega
      · have HN : Hid (decide (nx q (bt t k) < 5) = false) := decide_eq_false hn
        have hle := nx_le q (bt t k)
        have HJ : Hid (brJ n i o t = 5) := by show _ = _; rw [HBJ.out]; exact rnS_stop (k := k + 1) (by rw [HNX.out]; omega)
        obtain ⟨v, hv⟩ : ∃ v, v = sbV q (bt t k) := ⟨_, rfl⟩
        rw [HN.out]
        clear hn hle hv
        go_wp2_with fail
        exact bodyPost_ret (v := .tuple #[.agg #[.int .i64 0, .bool false, .bool false], .bool false]) (by simp [results, Try.results32, go_sem, hrc]) rfl ⟨by rw [HJ.out]; rfl, HM.out.done _ _ _⟩
    · obtain rfl : k = t.size := by omega
      have HJ2 : Hid (brJ n i o t = q) := by show _ = _; rw [HBJ.out, ← rnS_all]; exact HQ.out
      have h6 : q = 0 ∨ q = 1 ∨ q = 2 ∨ q = 3 ∨ q = 4 := by omega
      clear HQ hq5
      rcases h6 with rfl | rfl | rfl | rfl | rfl
      · have hme := fun (f : Nat) (w : World) => normalState_meth f w
        rw [show ifV 0 = .iface 140 (.agg #[]) from rfl]
        go_wp2_with fail
        refine (normalState_block _).mono ?_
        rintro e w3 ⟨rfl, hb⟩
        have HM3 := Lib.hid (HM.out.below hb rfl)
        clear hb hrc hrf
        have hrc := HM3.out.res.cell
        have hrf := HM3.out.res.free
        go_wp2_with fail
        exact bodyPost_ret (v := .tuple #[.agg #[.int .i64 0, .bool false, .bool false], .bool true]) (by simp [results, Try.results32, go_sem, hrc]) rfl ⟨by rw [HJ2.out]; rfl, HM3.out.done _ _ _⟩
      · have hme := fun (f : Nat) (w : World) => offeredState_meth f w
        rw [show ifV 1 = .iface 141 (.agg #[]) from rfl]
        go_wp2_with fail
        refine (offeredState_block _).mono ?_
        rintro e w3 ⟨rfl, hb⟩
        have HM3 := Lib.hid (HM.out.below hb rfl)
        clear hb hrc hrf
        have hrc := HM3.out.res.cell
        have hrf := HM3.out.res.free
        go_wp2_with fail
        exact bodyPost_ret (v := .tuple #[.agg #[.int .i64 0, .bool false, .bool true], .bool true]) (by simp [results, Try.results32, go_sem, hrc]) rfl ⟨by rw [HJ2.out]; rfl, HM3.out.done _ _ _⟩
      · have hme := fun (f : Nat) (w : World) => clearState_meth f w
        rw [show ifV 2 = .iface 142 (.agg #[]) from rfl]
        go_wp2_with fail
        refine (clearState_block _).mono ?_
        rintro e w3 ⟨rfl, hb⟩
        have HM3 := Lib.hid (HM.out.below hb rfl)
        clear hb hrc hrf
        have hrc := HM3.out.res.cell
        have hrf := HM3.out.res.free
        go_wp2_with fail
        exact bodyPost_ret (v := .tuple #[.agg #[.int .i64 1, .bool false, .bool false], .bool true]) (by simp [results, Try.results32, go_sem, hrc]) rfl ⟨by rw [HJ2.out]; rfl, HM3.out.done _ _ _⟩
      · have hme := fun (f : Nat) (w : World) => insideState_meth f w
        rw [show ifV 3 = .iface 143 (.agg #[]) from rfl]
        go_wp2_with fail
        refine (insideState_block _).mono ?_
        rintro e w3 ⟨rfl, hb⟩
        have HM3 := Lib.hid (HM.out.below hb rfl)
        clear hb hrc hrf
        have hrc := HM3.out.res.cell
        have hrf := HM3.out.res.free
        go_wp2_with fail
        exact bodyPost_ret (v := .tuple #[.agg #[.int .i64 2, .bool true, .bool false], .bool true]) (by simp [results, Try.results32, go_sem, hrc]) rfl ⟨by rw [HJ2.out]; rfl, HM3.out.done _ _ _⟩
      · have hme := fun (f : Nat) (w : World) => passedState_meth f w
        rw [show ifV 4 = .iface 144 (.agg #[]) from rfl]
        go_wp2_with fail
        refine (passedState_block _).mono ?_
        rintro e w3 ⟨rfl, hb⟩
        have HM3 := Lib.hid (HM.out.below hb rfl)
        clear hb hrc hrf
        have hrc := HM3.out.res.cell
        have hrf := HM3.out.res.free
        go_wp2_with fail
        exact bodyPost_ret (v := .tuple #[.agg #[.int .i64 2, .bool false, .bool false], .bool true]) (by simp [results, Try.results32, go_sem, hrc]) rfl ⟨by rw [HJ2.out]; rfl, HM3.out.done _ _ _⟩
/-- a text is legal -/
def lgB (t : ByteArray) : Bool := decide (brJ 0 false false t < 5)
set_option linter.unusedSimpArgs false in
theorem implLegal_any (t : ByteArray) (w : World) :
    Calls Try.prog 35 #[.string t] w fun e w' => e = .returned (.bool (lgB t)) ∧ Below w.heap.size w w' := by
  have hv : ∃ a b c, bsV (brJ 0 false false t) = .agg #[.int .i64 a, .bool b, .bool c] := by
    unfold bsV
    split
    · exact ⟨_, _, _, rfl⟩
    · exact ⟨_, _, _, rfl⟩
  obtain ⟨a, b, c, hv⟩ := hv
  have HV := Lib.hid hv
  clear hv
  go_enter Try.func35, Try.ntmps35
  go_wp2_with fail
  refine (implRun_any 0 false false t _).mono ?_
  rintro e w1 ⟨rfl, hb⟩
  have HB := Lib.hid hb
  clear hb
  rw [HV.out]
  go_wp2_with fail
  go_ret
  exact ⟨rfl, HB.out.alloc HB.out.size _⟩
end Go.Proofs.Ytokddeoliieofaa
