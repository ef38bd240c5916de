/-
  Walks on blocks: a step of a state; possible; step.
-/
import Derived.Test.YtokddeoliieofaaBk
import Derived.Lib.Strings
namespace Go.Proofs.Ytokddeoliieofaa
open Go.RowKit

/-- the state behind a letter; 5 where it cannot be -/
def nx (k : Nat) (c : Int) : Nat :=
  match k with
  | 0 => if c = 111 then 1 else 5
  | 1 => if c = 114 then 0 else if c = 97 then 2 else 5
  | 2 => if c = 99 then 0 else if c = 101 then 3 else 5
  | 3 => if c = 108 then 4 else 5
  | 4 => if c = 102 then 0 else 5
  | _ => 5
theorem nx_le : ∀ (k : Nat) (c : Int), nx k c ≤ 5
  | 0, c => by simp only [nx]; split <;> omega
  | 1, c => by simp only [nx]; split <;> (try split) <;> omega
  | 2, c => by simp only [nx]; split <;> (try split) <;> omega
  | 3, c => by simp only [nx]; split <;> omega
  | 4, c => by simp only [nx]; split <;> omega
  | k + 5, c => by simp [nx]
def sbV (k : Nat) (c : Int) : Value := if nx k c < 5 then ifV (nx k c) else ifV k
theorem ta00 (w : World) : (Instr.typeAssert (.iface 140 (.agg #[])) 107 140 true).run Try.prog w = .ok (.tuple #[.agg #[], .bool true]) w := by kernel_rfl
theorem ta10 (w : World) : (Instr.typeAssert (.iface 141 (.agg #[])) 107 140 true).run Try.prog w = .ok (.tuple #[.agg #[], .bool false]) w := by kernel_rfl
theorem ta11 (w : World) : (Instr.typeAssert (.iface 141 (.agg #[])) 107 141 true).run Try.prog w = .ok (.tuple #[.agg #[], .bool true]) w := by kernel_rfl
theorem ta20 (w : World) : (Instr.typeAssert (.iface 142 (.agg #[])) 107 140 true).run Try.prog w = .ok (.tuple #[.agg #[], .bool false]) w := by kernel_rfl
theorem ta21 (w : World) : (Instr.typeAssert (.iface 142 (.agg #[])) 107 141 true).run Try.prog w = .ok (.tuple #[.agg #[], .bool false]) w := by kernel_rfl
theorem ta22 (w : World) : (Instr.typeAssert (.iface 142 (.agg #[])) 107 142 true).run Try.prog w = .ok (.tuple #[.agg #[], .bool true]) w := by kernel_rfl
theorem ta30 (w : World) : (Instr.typeAssert (.iface 143 (.agg #[])) 107 140 true).run Try.prog w = .ok (.tuple #[.agg #[], .bool false]) w := by kernel_rfl
theorem ta31 (w : World) : (Instr.typeAssert (.iface 143 (.agg #[])) 107 141 true).run Try.prog w = .ok (.tuple #[.agg #[], .bool false]) w := by kernel_rfl
theorem ta32 (w : World) : (Instr.typeAssert (.iface 143 (.agg #[])) 107 142 true).run Try.prog w = .ok (.tuple #[.agg #[], .bool false]) w := by kernel_rfl
theorem ta33 (w : World) : (Instr.typeAssert (.iface 143 (.agg #[])) 107 143 true).run Try.prog w = .ok (.tuple #[.agg #[], .bool true]) w := by kernel_rfl
theorem ta40 (w : World) : (Instr.typeAssert (.iface 144 (.agg #[])) 107 140 true).run Try.prog w = .ok (.tuple #[.agg #[], .bool false]) w := by kernel_rfl
theorem ta41 (w : World) : (Instr.typeAssert (.iface 144 (.agg #[])) 107 141 true).run Try.prog w = .ok (.tuple #[.agg #[], .bool false]) w := by kernel_rfl
theorem ta42 (w : World) : (Instr.typeAssert (.iface 144 (.agg #[])) 107 142 true).run Try.prog w = .ok (.tuple #[.agg #[], .bool false]) w := by kernel_rfl
theorem ta43 (w : World) : (Instr.typeAssert (.iface 144 (.agg #[])) 107 143 true).run Try.prog w = .ok (.tuple #[.agg #[], .bool false]) w := by kernel_rfl
theorem ta44 (w : World) : (Instr.typeAssert (.iface 144 (.agg #[])) 107 144 true).run Try.prog w = .ok (.tuple #[.agg #[], .bool true]) w := by kernel_rfl
set_option maxRecDepth 100000 in
set_option maxHeartbeats 2000000 in
theorem stateBehind_any (k : Nat) (c : Int) (w : World) (hk : k < 5) :
    Calls Try.prog 81 #[ifV k, .int .u8 c] w fun e w' => e = .returned (.tuple #[sbV k c, .bool (decide (nx k c < 5))]) ∧ w = w' := by
  have h5 : k = 0 ∨ k = 1 ∨ k = 2 ∨ k = 3 ∨ k = 4 := by omega
  rcases h5 with rfl | rfl | rfl | rfl | rfl
  · show Calls Try.prog 81 #[.iface 140 (.agg #[]), .int .u8 c] w _
    have t0 := ta00
    by_cases hc : c = 111
    · have HV : Hid (sbV 0 c = ifV 1 ∧ nx 0 c = 1) := by
        have e : nx 0 c = 1 := by simp [nx, hc]
        exact ⟨by unfold sbV; rw [e]; rfl, e⟩
      have g1 : (c == 111) = true := by simp [hc]
      clear hc
      go_enter Try.func81, Try.ntmps81
      go_wp2_with fail
      go_ret2
      exact ⟨by rw [HV.out.1, HV.out.2]; rfl, rfl⟩
    · have HV : Hid (sbV 0 c = ifV 0 ∧ nx 0 c = 5) := by
        have e : nx 0 c = 5 := by simp [nx, hc]
        exact ⟨by unfold sbV; rw [e]; rfl, e⟩
      have g1 : (c == 111) = false := by simp [hc]
      clear hc
      go_enter Try.func81, Try.ntmps81
      go_wp2_with fail
      go_ret2
      exact ⟨by rw [HV.out.1, HV.out.2]; rfl, rfl⟩
  · show Calls Try.prog 81 #[.iface 141 (.agg #[]), .int .u8 c] w _
    have t0 := ta10
    have t1 := ta11
    by_cases hc : c = 114
    · have HV : Hid (sbV 1 c = ifV 0 ∧ nx 1 c = 0) := by
        have e : nx 1 c = 0 := by simp [nx, hc]
        exact ⟨by unfold sbV; rw [e]; rfl, e⟩
      have g1 : (c == 114) = true := by simp [hc]
      clear hc
      go_enter Try.func81, Try.ntmps81
      go_wp2_with fail
      go_ret2
      exact ⟨by rw [HV.out.1, HV.out.2]; rfl, rfl⟩
    have g0 : (c == 114) = false := by simp [hc]
    have hc0 := hc
    by_cases hc : c = 97
    · have HV : Hid (sbV 1 c = ifV 2 ∧ nx 1 c = 2) := by
        have e : nx 1 c = 2 := by simp [nx, hc]
        exact ⟨by unfold sbV; rw [e]; rfl, e⟩
      have g1 : (c == 97) = true := by simp [hc]
      clear hc hc0
      go_enter Try.func81, Try.ntmps81
      go_wp2_with fail
      go_ret2
      exact ⟨by rw [HV.out.1, HV.out.2]; rfl, rfl⟩
    · have HV : Hid (sbV 1 c = ifV 1 ∧ nx 1 c = 5) := by
        have e : nx 1 c = 5 := by simp [nx, hc, hc0]
        exact ⟨by unfold sbV; rw [e]; rfl, e⟩
      have g1 : (c == 97) = false := by simp [hc]
      clear hc hc0
      go_enter Try.func81, Try.ntmps81
      go_wp2_with fail
      go_ret2
      exact ⟨by rw [HV.out.1, HV.out.2]; rfl, rfl⟩
  · show Calls Try.prog 81 #[.iface 142 (.agg #[]), .int .u8 c] w _
    have t0 := ta20
    have t1 := ta21
    have t2 := ta22
    by_cases hc : c = 99
    · have HV : Hid (sbV 2 c = ifV 0 ∧ nx 2 c = 0) := by
        have e : nx 2 c = 0 := by simp [nx, hc]
        exact ⟨by unfold sbV; rw [e]; rfl, e⟩
      have g1 : (c == 99) = true := by simp [hc]
      clear hc
      go_enter Try.func81, Try.ntmps81
      go_wp2_with fail
      go_ret2
      exact ⟨by rw [HV.out.1, HV.out.2]; rfl, rfl⟩
    have g0 : (c == 99) = false := by simp [hc]
    have hc0 := hc
    by_cases hc : c = 101
    · have HV : Hid (sbV 2 c = ifV 3 ∧ nx 2 c = 3) := by
        have e : nx 2 c = 3 := by simp [nx, hc]
        exact ⟨by unfold sbV; rw [e]; rfl, e⟩
      have g1 : (c == 101) = true := by simp [hc]
      clear hc hc0
      go_enter Try.func81, Try.ntmps81
      go_wp2_with fail
      go_ret2
      exact ⟨by rw [HV.out.1, HV.out.2]; rfl, rfl⟩
    · have HV : Hid (sbV 2 c = ifV 2 ∧ nx 2 c = 5) := by
        have e : nx 2 c = 5 := by simp [nx, hc, hc0]
        exact ⟨by unfold sbV; rw [e]; rfl, e⟩
      have g1 : (c == 101) = false := by simp [hc]
      clear hc hc0
      go_enter Try.func81, Try.ntmps81
      go_wp2_with fail
      go_ret2
      exact ⟨by rw [HV.out.1, HV.out.2]; rfl, rfl⟩
  · show Calls Try.prog 81 #[.iface 143 (.agg #[]), .int .u8 c] w _
    have t0 := ta30
    have t1 := ta31
    have t2 := ta32
    have t3 := ta33
    by_cases hc : c = 108
    · have HV : Hid (sbV 3 c = ifV 4 ∧ nx 3 c = 4) := by
        have e : nx 3 c = 4 := by simp [nx, hc]
        exact ⟨by unfold sbV; rw [e]; rfl, e⟩
      have g1 : (c == 108) = true := by simp [hc]
      clear hc
      go_enter Try.func81, Try.ntmps81
      go_wp2_with fail
      go_ret2
      exact ⟨by rw [HV.out.1, HV.out.2]; rfl, rfl⟩
    · have HV : Hid (sbV 3 c = ifV 3 ∧ nx 3 c = 5) := by
        have e : nx 3 c = 5 := by simp [nx, hc]
        exact ⟨by unfold sbV; rw [e]; rfl, e⟩
      have g1 : (c == 108) = false := by simp [hc]
      clear hc
      go_enter Try.func81, Try.ntmps81
      go_wp2_with fail
      go_ret2
      exact ⟨by rw [HV.out.1, HV.out.2]; rfl, rfl⟩
  · show Calls Try.prog 81 #[.iface 144 (.agg #[]), .int .u8 c] w _
    have t0 := ta40
    have t1 := ta41
    have t2 := ta42
    have t3 := ta43
    have t4 := ta44
    by_cases hc : c = 102
    · have HV : Hid (sbV 4 c = ifV 0 ∧ nx 4 c = 0) := by
        have e : nx 4 c = 0 := by simp [nx, hc]
        exact ⟨by unfold sbV; rw [e]; rfl, e⟩
      have g1 : (c == 102) = true := by simp [hc]
      clear hc
      go_enter Try.func81, Try.ntmps81
      go_wp2_with fail
      go_ret2
      exact ⟨by rw [HV.out.1, HV.out.2]; rfl, rfl⟩
    · have HV : Hid (sbV 4 c = ifV 4 ∧ nx 4 c = 5) := by
        have e : nx 4 c = 5 := by simp [nx, hc]
        exact ⟨by unfold sbV; rw [e]; rfl, e⟩
      have g1 : (c == 102) = false := by simp [hc]
      clear hc
      go_enter Try.func81, Try.ntmps81
      go_wp2_with fail
      go_ret2
      exact ⟨by rw [HV.out.1, HV.out.2]; rfl, rfl⟩
theorem inV_at {k : Nat} (h : k < 5) : inV k = ifV k := if_pos h
theorem possible_any (n : Int) (i o : Bool) (w : World) :
    Calls Try.prog 47 #[.agg #[.int .i64 n, .bool i, .bool o]] w fun e w' => e = .returned (.bool (decide (stI n i o < 5))) ∧ Below w.heap.size w w' := by
  have HBB : Hid (∀ a, Below w.heap.size w (w.alloc a)) := fun a => below_all _ _
  go_enter Try.func47, Try.ntmps47
  go_wp2_with fail
  refine (instr_any n i o _).mono ?_
  rintro e w1 ⟨rfl, hb⟩
  have HB1 := Lib.hid ((HBB.out _).trans (hb.mono (by simp)))
  clear hb
  go_wp2_with fail
  go_ret
  exact ⟨rfl, HB1.out⟩
/-- the byte at a place -/
def bt (s : ByteArray) (k : Nat) : Int := if h : k < s.size then (s[k].toNat : Int) else 0
theorem bt_at {s : ByteArray} {k : Nat} (h : k < s.size) : (s[k].toNat : Int) = bt s k := by simp [bt, h]
/-- the state behind a block and a text of one letter; 5 where there is none -/
def bsI (n : Int) (i o : Bool) (s : ByteArray) : Nat := if s.size = 1 then nx (stI n i o) (bt s 0) else 5
end Go.Proofs.Ytokddeoliieofaa
