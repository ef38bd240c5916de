/-
  Walks on blocks: the five states, their blocks, the state of a block.
-/
import Derived.Test.YtokddeoliieofaaBx
import Derived.Test.YtokddeoliieofaaQt
import Derived.Test.YtokddeoliieofaaRx
import Derived.Deep.RegionWith
namespace Go.Proofs.Ytokddeoliieofaa
open Go.RowKit

/-- a block as data -/
structure Bk where
  n : Int
  i : Bool
  o : Bool
deriving DecidableEq
def bkC (b : Bk) : Array Value := #[.int .i64 b.n, .bool b.i, .bool b.o]
/-- the blocks of the five states -/
def stB : Nat → Bk
  | 0 => ⟨0, false, false⟩
  | 1 => ⟨0, false, true⟩
  | 2 => ⟨1, false, false⟩
  | 3 => ⟨2, true, false⟩
  | _ => ⟨2, false, false⟩

theorem normalState_meth (f : Nat) (w : World) : (method (f + 1) 140 (.agg #[]) "loop.example/blockboxes/impl.block").run Try.prog w = .ok (152, .agg #[]) w := by kernel_rfl
theorem offeredState_meth (f : Nat) (w : World) : (method (f + 1) 141 (.agg #[]) "loop.example/blockboxes/impl.block").run Try.prog w = .ok (153, .agg #[]) w := by kernel_rfl
theorem clearState_meth (f : Nat) (w : World) : (method (f + 1) 142 (.agg #[]) "loop.example/blockboxes/impl.block").run Try.prog w = .ok (154, .agg #[]) w := by kernel_rfl
theorem insideState_meth (f : Nat) (w : World) : (method (f + 1) 143 (.agg #[]) "loop.example/blockboxes/impl.block").run Try.prog w = .ok (155, .agg #[]) w := by kernel_rfl
theorem passedState_meth (f : Nat) (w : World) : (method (f + 1) 144 (.agg #[]) "loop.example/blockboxes/impl.block").run Try.prog w = .ok (156, .agg #[]) w := by kernel_rfl
theorem normalState_block (w : World) : Calls Try.prog 152 #[.agg #[]] w fun e w' => e = .returned (.agg #[.int .i64 0, .bool false, .bool false]) ∧ Below w.heap.size w w' := by
  go_enter Try.func152, Try.ntmps152
  go_wp2_with fail
  exact bodyPost_ret (v := .agg #[.int .i64 0, .bool false, .bool false]) (by simp [results, Try.results152, go_sem]) rfl ⟨rfl, ((Below.refl _ _).alloc (Nat.le_refl _) _).alloc (by simp) _⟩
theorem offeredState_block (w : World) : Calls Try.prog 153 #[.agg #[]] w fun e w' => e = .returned (.agg #[.int .i64 0, .bool false, .bool true]) ∧ Below w.heap.size w w' := by
  go_enter Try.func153, Try.ntmps153
  go_wp2_with fail
  exact bodyPost_ret (v := .agg #[.int .i64 0, .bool false, .bool true]) (by simp [results, Try.results153, go_sem]) rfl ⟨rfl, ((Below.refl _ _).alloc (Nat.le_refl _) _).alloc (by simp) _⟩
theorem clearState_block (w : World) : Calls Try.prog 154 #[.agg #[]] w fun e w' => e = .returned (.agg #[.int .i64 1, .bool false, .bool false]) ∧ Below w.heap.size w w' := by
  go_enter Try.func154, Try.ntmps154
  go_wp2_with fail
  exact bodyPost_ret (v := .agg #[.int .i64 1, .bool false, .bool false]) (by simp [results, Try.results154, go_sem]) rfl ⟨rfl, ((Below.refl _ _).alloc (Nat.le_refl _) _).alloc (by simp) _⟩
theorem insideState_block (w : World) : Calls Try.prog 155 #[.agg #[]] w fun e w' => e = .returned (.agg #[.int .i64 2, .bool true, .bool false]) ∧ Below w.heap.size w w' := by
  go_enter Try.func155, Try.ntmps155
  go_wp2_with fail
  exact bodyPost_ret (v := .agg #[.int .i64 2, .bool true, .bool false]) (by simp [results, Try.results155, go_sem]) rfl ⟨rfl, ((Below.refl _ _).alloc (Nat.le_refl _) _).alloc (by simp) _⟩
theorem passedState_block (w : World) : Calls Try.prog 156 #[.agg #[]] w fun e w' => e = .returned (.agg #[.int .i64 2, .bool false, .bool false]) ∧ Below w.heap.size w w' := by
  go_enter Try.func156, Try.ntmps156
  go_wp2_with fail
  exact bodyPost_ret (v := .agg #[.int .i64 2, .bool false, .bool false]) (by simp [results, Try.results156, go_sem]) rfl ⟨rfl, ((Below.refl _ _).alloc (Nat.le_refl _) _).alloc (by simp) _⟩

/-- the state with a number as an interface value -/
def ifV : Nat → Value
  | 0 => .iface 140 (.agg #[])
  | 1 => .iface 141 (.agg #[])
  | 2 => .iface 142 (.agg #[])
  | 3 => .iface 143 (.agg #[])
  | _ => .iface 144 (.agg #[])
def allI : Array Value := #[.iface 140 (.agg #[]), .iface 141 (.agg #[]), .iface 142 (.agg #[]), .iface 143 (.agg #[]), .iface 144 (.agg #[])]
/-- the boxes of the search -/
structure InM (w wr : World) (n : Int) (i o : Bool) : Prop where
  box : Bx wr w.heap.size 46 #[.int .i64 n, .bool i, .bool o]
  lit : Bx wr (w.heap.size + 1) 107 allI
  bl : Below w.heap.size w wr
theorem InM.below {w wr w' : World} {n : Int} {i o : Bool} {B : Nat} (h : InM w wr n i o) (hb : Below B wr w') (hB : B = wr.heap.size) : InM w w' n i o := by
  subst hB
  exact ⟨h.box.below hb h.box.lt, h.lit.below hb h.lit.lt, h.bl.trans (hb.mono h.bl.size)⟩
/-- a block is that of a state -/
def bkE (k : Nat) (n : Int) (i o : Bool) : Bool := decide ((stB k).n = n) && (decide ((stB k).i = i) && decide ((stB k).o = o))
theorem bkq0 {n : Int} {i o b : Bool} (h : bkE 0 n i o = b) (w : World) : (if 0 = n then (if i = true then Result.ok (Next.value (Value.bool false)) w else if o = true then Result.ok (Next.value (Value.bool false)) w else Result.ok (Next.value (Value.bool true)) w) else Result.ok (Next.value (Value.bool false)) w) = Result.ok (Next.value (Value.bool b)) w := by
  subst h
  cases i <;> cases o <;> by_cases h0 : (0 : Int) = n <;> simp [bkE, stB, h0]
theorem bkq1 {n : Int} {i o b : Bool} (h : bkE 1 n i o = b) (w : World) : (if 0 = n then (if i = true then Result.ok (Next.value (Value.bool false)) w else if o = false then Result.ok (Next.value (Value.bool false)) w else Result.ok (Next.value (Value.bool true)) w) else Result.ok (Next.value (Value.bool false)) w) = Result.ok (Next.value (Value.bool b)) w := by
  subst h
  cases i <;> cases o <;> by_cases h0 : (0 : Int) = n <;> simp [bkE, stB, h0]
theorem bkq2 {n : Int} {i o b : Bool} (h : bkE 2 n i o = b) (w : World) : (if 1 = n then (if i = true then Result.ok (Next.value (Value.bool false)) w else if o = true then Result.ok (Next.value (Value.bool false)) w else Result.ok (Next.value (Value.bool true)) w) else Result.ok (Next.value (Value.bool false)) w) = Result.ok (Next.value (Value.bool b)) w := by
  subst h
  cases i <;> cases o <;> by_cases h0 : (1 : Int) = n <;> simp [bkE, stB, h0]
theorem bkq3 {n : Int} {i o b : Bool} (h : bkE 3 n i o = b) (w : World) : (if 2 = n then (if i = false then Result.ok (Next.value (Value.bool false)) w else if o = true then Result.ok (Next.value (Value.bool false)) w else Result.ok (Next.value (Value.bool true)) w) else Result.ok (Next.value (Value.bool false)) w) = Result.ok (Next.value (Value.bool b)) w := by
  subst h
  cases i <;> cases o <;> by_cases h0 : (2 : Int) = n <;> simp [bkE, stB, h0]
theorem bkq4 {n : Int} {i o b : Bool} (h : bkE 4 n i o = b) (w : World) : (if 2 = n then (if i = true then Result.ok (Next.value (Value.bool false)) w else if o = true then Result.ok (Next.value (Value.bool false)) w else Result.ok (Next.value (Value.bool true)) w) else Result.ok (Next.value (Value.bool false)) w) = Result.ok (Next.value (Value.bool b)) w := by
  subst h
  cases i <;> cases o <;> by_cases h0 : (2 : Int) = n <;> simp [bkE, stB, h0]
/-- the number of a block's state; 5 where there is none -/
def stI (n : Int) (i o : Bool) : Nat := if bkE 0 n i o = true then 0 else if bkE 1 n i o = true then 1 else if bkE 2 n i o = true then 2 else if bkE 3 n i o = true then 3 else if bkE 4 n i o = true then 4 else 5
/-- what instrumentOf hands back -/
def inV (k : Nat) : Value := if k < 5 then ifV k else .nilIface
theorem stI_at {n : Int} {i o : Bool} {k : Nat} (hk : k < 5) (h : bkE k n i o = true) (hn : ∀ j, j < k → bkE j n i o = false) : stI n i o = k := by
  have h5 : k = 0 ∨ k = 1 ∨ k = 2 ∨ k = 3 ∨ k = 4 := by omega
  unfold stI
  rcases h5 with rfl | rfl | rfl | rfl | rfl
  · rw [if_pos h]
  · rw [hn 0 (by omega), if_neg (by simp), if_pos h]
  · rw [hn 0 (by omega), hn 1 (by omega), if_neg (by simp), if_neg (by simp), if_pos h]
  · rw [hn 0 (by omega), hn 1 (by omega), hn 2 (by omega), if_neg (by simp), if_neg (by simp), if_neg (by simp), if_pos h]
  · rw [hn 0 (by omega), hn 1 (by omega), hn 2 (by omega), hn 3 (by omega), if_neg (by simp), if_neg (by simp), if_neg (by simp), if_neg (by simp), if_pos h]
theorem stI_no {n : Int} {i o : Bool} (hn : ∀ j, j < 5 → bkE j n i o = false) : stI n i o = 5 := by
  unfold stI
  rw [hn 0 (by omega), hn 1 (by omega), hn 2 (by omega), hn 3 (by omega), hn 4 (by omega)]
  simp
set_option linter.unusedSimpArgs false in
set_option maxRecDepth 100000 in
set_option maxHeartbeats 4000000 in
theorem instr_any (n : Int) (i o : Bool) (w : World) :
    Calls Try.prog 80 #[.agg #[.int .i64 n, .bool i, .bool o]] w fun e w' => e = .returned (.tuple #[inV (stI n i o), .bool (decide (stI n i o < 5))]) ∧ Below w.heap.size w w' := by
  go_enter Try.func80, Try.ntmps80
  go_wp2_with fail
  go_loopw [20] (fun s wr => ∃ k : Nat, k ≤ 5 ∧ s = .int .i64 k ∧ Hid (∀ j, j < k → bkE j n i o = false) ∧ InM w wr n i o) (fun s _ => 5 - (intOf s).toNat)
  case atStart => exact ⟨0, by omega, rfl, Lib.hid (fun j hj => by omega), ⟨(Bx.new _ _ _).alloc _, Bx.newAt (by simp), ((Below.refl _ _).alloc (Nat.le_refl _) _).alloc (by simp) _⟩⟩
  case round =>
    obtain ⟨k, hk, rfl, HA, hm⟩ := hrel
    have HM := Lib.hid hm
    have hbx := hm.box.cell
    have hlx := hm.lit.cell
    clear hm
    have h5 : k = 0 ∨ k = 1 ∨ k = 2 ∨ k = 3 ∨ k = 4 ∨ k = 5 := by omega
    rcases h5 with rfl | rfl | rfl | rfl | rfl | rfl
    · have hl0 : wr.cell? ⟨w.heap.size + 1, 0, none⟩ = some (.iface 140 (.agg #[])) := hlx 0
      have hme := fun (f : Nat) (w : World) => normalState_meth f w
      clear hlx
      cases he : bkE 0 n i o
      · have HE := Lib.hid he
        clear he
        go_wp2_with fail
        refine wp_region_held_drew (S := (fun w' => w'.cell? ⟨w.heap.size, 0, none⟩ = some (.int .i64 n) ∧ w'.cell? ⟨w.heap.size, 1, none⟩ = some (.bool i) ∧ w'.cell? ⟨w.heap.size, 2, none⟩ = some (.bool o))) (by kernel_rfl) ?_ (fun hHeld => ?_)
        · try dsimp only
          go_keep
        refine wpAnyH_take (i := 0) (oi := ?_) (v := ?_) ?_ (by kernel_rfl) (by kernel_rfl) (by kernel_rfl) ?_ ?_ (by assumption) ?_
        rotate_left 2
        · simp only [List.getElem?_toArray, List.getElem?_cons_succ, List.getElem?_cons_zero]; rfl
        · exact fun _ _ _ h => h
        · first
            | (refine Or.inr ⟨?_, ?_⟩ <;> rfl)
            | (refine Or.inl ⟨?_, ?_⟩; · rfl
               intro w hSw; (try dsimp only at hSw); go_simp; (try with_reducible rfl); done)
        try simp only [Act.put, List.setIfInBounds_toArray, List.set_cons_zero, List.set_cons_succ]
        refine wpAnyH_take (i := 2) (oi := ?_) (v := ?_) ?_ (by kernel_rfl) (by kernel_rfl) (by kernel_rfl) ?_ ?_ (by assumption) ?_
        rotate_left 2
        · simp only [List.getElem?_toArray, List.getElem?_cons_succ, List.getElem?_cons_zero]; rfl
        · exact fun _ _ _ h => h
        · first
            | (refine Or.inr ⟨?_, ?_⟩ <;> rfl)
            | (refine Or.inl ⟨?_, ?_⟩; · rfl
               intro w hSw; (try dsimp only at hSw); go_simp; (try with_reducible rfl); done)
        try simp only [Act.put, List.setIfInBounds_toArray, List.set_cons_zero, List.set_cons_succ]
        refine wpAnyH_ready (rs := [1]) (by kernel_rfl) (by simp) ?_
        refine AllReadyH.cons (o := ?_) ?_ (fun K hK => ?_) AllReadyH.nil
        rotate_left 1
        · simp only [List.getElem?_toArray, List.getElem?_cons_succ, List.getElem?_cons_zero]; rfl
        go_simp
        go_at_call 152
        go_must (refine Calls.mono (normalState_block _) ?_)
        rintro e w2 ⟨rfl, hb⟩
        have HM2 := Lib.hid (HM.out.below ((Below.refl _ wr).drew.trans (hb.mono (by exact Nat.le_refl _))) rfl)
        have hbx2 := HM2.out.box.cell
        clear hb
        refine hK.out _ _ ?_ (fun hHeld => ?_)
        · try dsimp only
          go_keep
        clear hK K
        try simp only [Act.put, List.setIfInBounds_toArray, List.set_cons_zero, List.set_cons_succ]
        refine wpAnyH_take (i := 3) (oi := ?_) (v := ?_) ?_ (by kernel_rfl) (by kernel_rfl) (by kernel_rfl) ?_ ?_ (by assumption) ?_
        rotate_left 2
        · simp only [List.getElem?_toArray, List.getElem?_cons_succ, List.getElem?_cons_zero]; rfl
        · exact fun _ _ _ h => h
        · refine Or.inl ⟨?_, ?_⟩
          · rfl
          · intro w hSw; (try dsimp only at hSw); go_simp; exact bkq0 HE.out _
        try simp only [Act.put, List.setIfInBounds_toArray, List.set_cons_zero, List.set_cons_succ]
        refine wpAnyH_done (by kernel_rfl) ?_ _
        go_wp2_with fail
        go_roundw
        case rel => exact ⟨0 + 1, by omega, by first | rfl | go_num, Lib.hid (fun j hj => by
          by_cases e : j = 0
          · rw [e]; exact HE.out
          · exact HA.out j (by omega)), HM2.out⟩
        case measure => simp [intOf]
      · have HE := Lib.hid he
        clear he
        go_wp2_with fail
        refine wp_region_held_drew (S := (fun w' => w'.cell? ⟨w.heap.size, 0, none⟩ = some (.int .i64 n) ∧ w'.cell? ⟨w.heap.size, 1, none⟩ = some (.bool i) ∧ w'.cell? ⟨w.heap.size, 2, none⟩ = some (.bool o))) (by kernel_rfl) ?_ (fun hHeld => ?_)
        · try dsimp only
          go_keep
        refine wpAnyH_take (i := 0) (oi := ?_) (v := ?_) ?_ (by kernel_rfl) (by kernel_rfl) (by kernel_rfl) ?_ ?_ (by assumption) ?_
        rotate_left 2
        · simp only [List.getElem?_toArray, List.getElem?_cons_succ, List.getElem?_cons_zero]; rfl
        · exact fun _ _ _ h => h
        · first
            | (refine Or.inr ⟨?_, ?_⟩ <;> rfl)
            | (refine Or.inl ⟨?_, ?_⟩; · rfl
               intro w hSw; (try dsimp only at hSw); go_simp; (try with_reducible rfl); done)
        try simp only [Act.put, List.setIfInBounds_toArray, List.set_cons_zero, List.set_cons_succ]
        refine wpAnyH_take (i := 2) (oi := ?_) (v := ?_) ?_ (by kernel_rfl) (by kernel_rfl) (by kernel_rfl) ?_ ?_ (by assumption) ?_
        rotate_left 2
        · simp only [List.getElem?_toArray, List.getElem?_cons_succ, List.getElem?_cons_zero]; rfl
        · exact fun _ _ _ h => h
        · first
            | (refine Or.inr ⟨?_, ?_⟩ <;> rfl)
            | (refine Or.inl ⟨?_, ?_⟩; · rfl
               intro w hSw; (try dsimp only at hSw); go_simp; (try with_reducible rfl); done)
        try simp only [Act.put, List.setIfInBounds_toArray, List.set_cons_zero, List.set_cons_succ]
        refine wpAnyH_ready (rs := [1]) (by kernel_rfl) (by simp) ?_
        refine AllReadyH.cons (o := ?_) ?_ (fun K hK => ?_) AllReadyH.nil
        rotate_left 1
        · simp only [List.getElem?_toArray, List.getElem?_cons_succ, List.getElem?_cons_zero]; rfl
        go_simp
        go_at_call 152
        go_must (refine Calls.mono (normalState_block _) ?_)
        rintro e w2 ⟨rfl, hb⟩
        have HM2 := Lib.hid (HM.out.below ((Below.refl _ wr).drew.trans (hb.mono (by exact Nat.le_refl _))) rfl)
        have hbx2 := HM2.out.box.cell
        clear hb
        refine hK.out _ _ ?_ (fun hHeld => ?_)
        · try dsimp only
          go_keep
        clear hK K
        try simp only [Act.put, List.setIfInBounds_toArray, List.set_cons_zero, List.set_cons_succ]
        refine wpAnyH_take (i := 3) (oi := ?_) (v := ?_) ?_ (by kernel_rfl) (by kernel_rfl) (by kernel_rfl) ?_ ?_ (by assumption) ?_
        rotate_left 2
        · simp only [List.getElem?_toArray, List.getElem?_cons_succ, List.getElem?_cons_zero]; rfl
        · exact fun _ _ _ h => h
        · refine Or.inl ⟨?_, ?_⟩
          · rfl
          · intro w hSw; (try dsimp only at hSw); go_simp; exact bkq0 HE.out _
        try simp only [Act.put, List.setIfInBounds_toArray, List.set_cons_zero, List.set_cons_succ]
        refine wpAnyH_done (by kernel_rfl) ?_ _
        go_wp2_with fail
        go_ret2
        exact ⟨by rw [stI_at (by omega) HE.out HA.out]; rfl, HM2.out.bl⟩
    · have hl0 : wr.cell? ⟨w.heap.size + 1, 1, none⟩ = some (.iface 141 (.agg #[])) := hlx 1
      have hme := fun (f : Nat) (w : World) => offeredState_meth f w
      clear hlx
      cases he : bkE 1 n i o
      · have HE := Lib.hid he
        clear he
        go_wp2_with fail
        refine wp_region_held_drew (S := (fun w' => w'.cell? ⟨w.heap.size, 0, none⟩ = some (.int .i64 n) ∧ w'.cell? ⟨w.heap.size, 1, none⟩ = some (.bool i) ∧ w'.cell? ⟨w.heap.size, 2, none⟩ = some (.bool o))) (by kernel_rfl) ?_ (fun hHeld => ?_)
        · try dsimp only
          go_keep
        refine wpAnyH_take (i := 0) (oi := ?_) (v := ?_) ?_ (by kernel_rfl) (by kernel_rfl) (by kernel_rfl) ?_ ?_ (by assumption) ?_
        rotate_left 2
        · simp only [List.getElem?_toArray, List.getElem?_cons_succ, List.getElem?_cons_zero]; rfl
        · exact fun _ _ _ h => h
        · first
            | (refine Or.inr ⟨?_, ?_⟩ <;> rfl)
            | (refine Or.inl ⟨?_, ?_⟩; · rfl
               intro w hSw; (try dsimp only at hSw); go_simp; (try with_reducible rfl); done)
        try simp only [Act.put, List.setIfInBounds_toArray, List.set_cons_zero, List.set_cons_succ]
        refine wpAnyH_take (i := 2) (oi := ?_) (v := ?_) ?_ (by kernel_rfl) (by kernel_rfl) (by kernel_rfl) ?_ ?_ (by assumption) ?_
        rotate_left 2
        · simp only [List.getElem?_toArray, List.getElem?_cons_succ, List.getElem?_cons_zero]; rfl
        · exact fun _ _ _ h => h
        · first
            | (refine Or.inr ⟨?_, ?_⟩ <;> rfl)
            | (refine Or.inl ⟨?_, ?_⟩; · rfl
               intro w hSw; (try dsimp only at hSw); go_simp; (try with_reducible rfl); done)
        try simp only [Act.put, List.setIfInBounds_toArray, List.set_cons_zero, List.set_cons_succ]
        refine wpAnyH_ready (rs := [1]) (by kernel_rfl) (by simp) ?_
        refine AllReadyH.cons (o := ?_) ?_ (fun K hK => ?_) AllReadyH.nil
        rotate_left 1
        · simp only [List.getElem?_toArray, List.getElem?_cons_succ, List.getElem?_cons_zero]; rfl
        go_simp
        go_at_call 153
        go_must (refine Calls.mono (offeredState_block _) ?_)
        rintro e w2 ⟨rfl, hb⟩
        have HM2 := Lib.hid (HM.out.below ((Below.refl _ wr).drew.trans (hb.mono (by exact Nat.le_refl _))) rfl)
        have hbx2 := HM2.out.box.cell
        clear hb
        refine hK.out _ _ ?_ (fun hHeld => ?_)
        · try dsimp only
          go_keep
        clear hK K
        try simp only [Act.put, List.setIfInBounds_toArray, List.set_cons_zero, List.set_cons_succ]
        refine wpAnyH_take (i := 3) (oi := ?_) (v := ?_) ?_ (by kernel_rfl) (by kernel_rfl) (by kernel_rfl) ?_ ?_ (by assumption) ?_
        rotate_left 2
        · simp only [List.getElem?_toArray, List.getElem?_cons_succ, List.getElem?_cons_zero]; rfl
        · exact fun _ _ _ h => h
        · refine Or.inl ⟨?_, ?_⟩
          · rfl
          · intro w hSw; (try dsimp only at hSw); go_simp; exact bkq1 HE.out _
        try simp only [Act.put, List.setIfInBounds_toArray, List.set_cons_zero, List.set_cons_succ]
        refine wpAnyH_done (by kernel_rfl) ?_ _
        go_wp2_with fail
        go_roundw
        case rel => exact ⟨1 + 1, by omega, by first | rfl | go_num, Lib.hid (fun j hj => by
          by_cases e : j = 1
          · rw [e]; exact HE.out
          · exact HA.out j (by omega)), HM2.out⟩
        case measure => simp [intOf]
      · have HE := Lib.hid he
        clear he
        go_wp2_with fail
        refine wp_region_held_drew (S := (fun w' => w'.cell? ⟨w.heap.size, 0, none⟩ = some (.int .i64 n) ∧ w'.cell? ⟨w.heap.size, 1, none⟩ = some (.bool i) ∧ w'.cell? ⟨w.heap.size, 2, none⟩ = some (.bool o))) (by kernel_rfl) ?_ (fun hHeld => ?_)
        · try dsimp only
          go_keep
        refine wpAnyH_take (i := 0) (oi := ?_) (v := ?_) ?_ (by kernel_rfl) (by kernel_rfl) (by kernel_rfl) ?_ ?_ (by assumption) ?_
        rotate_left 2
        · simp only [List.getElem?_toArray, List.getElem?_cons_succ, List.getElem?_cons_zero]; rfl
        · exact fun _ _ _ h => h
        · first
            | (refine Or.inr ⟨?_, ?_⟩ <;> rfl)
            | (refine Or.inl ⟨?_, ?_⟩; · rfl
               intro w hSw; (try dsimp only at hSw); go_simp; (try with_reducible rfl); done)
        try simp only [Act.put, List.setIfInBounds_toArray, List.set_cons_zero, List.set_cons_succ]
        refine wpAnyH_take (i := 2) (oi := ?_) (v := ?_) ?_ (by kernel_rfl) (by kernel_rfl) (by kernel_rfl) ?_ ?_ (by assumption) ?_
        rotate_left 2
        · simp only [List.getElem?_toArray, List.getElem?_cons_succ, List.getElem?_cons_zero]; rfl
        · exact fun _ _ _ h => h
        · first
            | (refine Or.inr ⟨?_, ?_⟩ <;> rfl)
            | (refine Or.inl ⟨?_, ?_⟩; · rfl
               intro w hSw; (try dsimp only at hSw); go_simp; (try with_reducible rfl); done)
        try simp only [Act.put, List.setIfInBounds_toArray, List.set_cons_zero, List.set_cons_succ]
        refine wpAnyH_ready (rs := [1]) (by kernel_rfl) (by simp) ?_
        refine AllReadyH.cons (o := ?_) ?_ (fun K hK => ?_) AllReadyH.nil
        rotate_left 1
        · simp only [List.getElem?_toArray, List.getElem?_cons_succ, List.getElem?_cons_zero]; rfl
        go_simp
        go_at_call 153
        go_must (refine Calls.mono (offeredState_block _) ?_)
        rintro e w2 ⟨rfl, hb⟩
        have HM2 := Lib.hid (HM.out.below ((Below.refl _ wr).drew.trans (hb.mono (by exact Nat.le_refl _))) rfl)
        have hbx2 := HM2.out.box.cell
        clear hb
        refine hK.out _ _ ?_ (fun hHeld => ?_)
        · try dsimp only
          go_keep
        clear hK K
        try simp only [Act.put, List.setIfInBounds_toArray, List.set_cons_zero, List.set_cons_succ]
        refine wpAnyH_take (i := 3) (oi := ?_) (v := ?_) ?_ (by kernel_rfl) (by kernel_rfl) (by kernel_rfl) ?_ ?_ (by assumption) ?_
        rotate_left 2
        · simp only [List.getElem?_toArray, List.getElem?_cons_succ, List.getElem?_cons_zero]; rfl
        · exact fun _ _ _ h => h
        · refine Or.inl ⟨?_, ?_⟩
          · rfl
          · intro w hSw; (try dsimp only at hSw); go_simp; exact bkq1 HE.out _
        try simp only [Act.put, List.setIfInBounds_toArray, List.set_cons_zero, List.set_cons_succ]
        refine wpAnyH_done (by kernel_rfl) ?_ _
        go_wp2_with fail
        go_ret2
        exact ⟨by rw [stI_at (by omega) HE.out HA.out]; rfl, HM2.out.bl⟩
    · have hl0 : wr.cell? ⟨w.heap.size + 1, 2, none⟩ = some (.iface 142 (.agg #[])) := hlx 2
      have hme := fun (f : Nat) (w : World) => clearState_meth f w
      clear hlx
      cases he : bkE 2 n i o
      · have HE := Lib.hid he
        clear he
        go_wp2_with fail
        refine wp_region_held_drew (S := (fun w' => w'.cell? ⟨w.heap.size, 0, none⟩ = some (.int .i64 n) ∧ w'.cell? ⟨w.heap.size, 1, none⟩ = some (.bool i) ∧ w'.cell? ⟨w.heap.size, 2, none⟩ = some (.bool o))) (by kernel_rfl) ?_ (fun hHeld => ?_)
        · try dsimp only
          go_keep
        refine wpAnyH_take (i := 0) (oi := ?_) (v := ?_) ?_ (by kernel_rfl) (by kernel_rfl) (by kernel_rfl) ?_ ?_ (by assumption) ?_
        rotate_left 2
        · simp only [List.getElem?_toArray, List.getElem?_cons_succ, List.getElem?_cons_zero]; rfl
        · exact fun _ _ _ h => h
        · first
            | (refine Or.inr ⟨?_, ?_⟩ <;> rfl)
            | (refine Or.inl ⟨?_, ?_⟩; · rfl
               intro w hSw; (try dsimp only at hSw); go_simp; (try with_reducible rfl); done)
        try simp only [Act.put, List.setIfInBounds_toArray, List.set_cons_zero, List.set_cons_succ]
        refine wpAnyH_take (i := 2) (oi := ?_) (v := ?_) ?_ (by kernel_rfl) (by kernel_rfl) (by kernel_rfl) ?_ ?_ (by assumption) ?_
        rotate_left 2
        · simp only [List.getElem?_toArray, List.getElem?_cons_succ, List.getElem?_cons_zero]; rfl
        · exact fun _ _ _ h => h
        · first
            | (refine Or.inr ⟨?_, ?_⟩ <;> rfl)
            | (refine Or.inl ⟨?_, ?_⟩; · rfl
               intro w hSw; (try dsimp only at hSw); go_simp; (try with_reducible rfl); done)
        try simp only [Act.put, List.setIfInBounds_toArray, List.set_cons_zero, List.set_cons_succ]
        refine wpAnyH_ready (rs := [1]) (by kernel_rfl) (by simp) ?_
        refine AllReadyH.cons (o := ?_) ?_ (fun K hK => ?_) AllReadyH.nil
        rotate_left 1
        · simp only [List.getElem?_toArray, List.getElem?_cons_succ, List.getElem?_cons_zero]; rfl
        go_simp
        go_at_call 154
        go_must (refine Calls.mono (clearState_block _) ?_)
        rintro e w2 ⟨rfl, hb⟩
        have HM2 := Lib.hid (HM.out.below ((Below.refl _ wr).drew.trans (hb.mono (by exact Nat.le_refl _))) rfl)
        have hbx2 := HM2.out.box.cell
        clear hb
        refine hK.out _ _ ?_ (fun hHeld => ?_)
        · try dsimp only
          go_keep
        clear hK K
        try simp only [Act.put, List.setIfInBounds_toArray, List.set_cons_zero, List.set_cons_succ]
        refine wpAnyH_take (i := 3) (oi := ?_) (v := ?_) ?_ (by kernel_rfl) (by kernel_rfl) (by kernel_rfl) ?_ ?_ (by assumption) ?_
        rotate_left 2
        · simp only [List.getElem?_toArray, List.getElem?_cons_succ, List.getElem?_cons_zero]; rfl
        · exact fun _ _ _ h => h
        · refine Or.inl ⟨?_, ?_⟩
          · rfl
          · intro w hSw; (try dsimp only at hSw); go_simp; exact bkq2 HE.out _
        try simp only [Act.put, List.setIfInBounds_toArray, List.set_cons_zero, List.set_cons_succ]
        refine wpAnyH_done (by kernel_rfl) ?_ _
        go_wp2_with fail
        go_roundw
        case rel => exact ⟨2 + 1, by omega, by first | rfl | go_num, Lib.hid (fun j hj => by
          by_cases e : j = 2
          · rw [e]; exact HE.out
          · exact HA.out j (by omega)), HM2.out⟩
        case measure => simp [intOf]
      · have HE := Lib.hid he
        clear he
        go_wp2_with fail
        refine wp_region_held_drew (S := (fun w' => w'.cell? ⟨w.heap.size, 0, none⟩ = some (.int .i64 n) ∧ w'.cell? ⟨w.heap.size, 1, none⟩ = some (.bool i) ∧ w'.cell? ⟨w.heap.size, 2, none⟩ = some (.bool o))) (by kernel_rfl) ?_ (fun hHeld => ?_)
        · try dsimp only
          go_keep
        refine wpAnyH_take (i := 0) (oi := ?_) (v := ?_) ?_ (by kernel_rfl) (by kernel_rfl) (by kernel_rfl) ?_ ?_ (by assumption) ?_
        rotate_left 2
        · simp only [List.getElem?_toArray, List.getElem?_cons_succ, List.getElem?_cons_zero]; rfl
        · exact fun _ _ _ h => h
        · first
            | (refine Or.inr ⟨?_, ?_⟩ <;> rfl)
            | (refine Or.inl ⟨?_, ?_⟩; · rfl
               intro w hSw; (try dsimp only at hSw); go_simp; (try with_reducible rfl); done)
        try simp only [Act.put, List.setIfInBounds_toArray, List.set_cons_zero, List.set_cons_succ]
        refine wpAnyH_take (i := 2) (oi := ?_) (v := ?_) ?_ (by kernel_rfl) (by kernel_rfl) (by kernel_rfl) ?_ ?_ (by assumption) ?_
        rotate_left 2
        · simp only [List.getElem?_toArray, List.getElem?_cons_succ, List.getElem?_cons_zero]; rfl
        · exact fun _ _ _ h => h
        · first
            | (refine Or.inr ⟨?_, ?_⟩ <;> rfl)
            | (refine Or.inl ⟨?_, ?_⟩; · rfl
               intro w hSw; (try dsimp only at hSw); go_simp; (try with_reducible rfl); done)
        try simp only [Act.put, List.setIfInBounds_toArray, List.set_cons_zero, List.set_cons_succ]
        refine wpAnyH_ready (rs := [1]) (by kernel_rfl) (by simp) ?_
        refine AllReadyH.cons (o := ?_) ?_ (fun K hK => ?_) AllReadyH.nil
        rotate_left 1
        · simp only [List.getElem?_toArray, List.getElem?_cons_succ, List.getElem?_cons_zero]; rfl
        go_simp
        go_at_call 154
        go_must (refine Calls.mono (clearState_block _) ?_)
        rintro e w2 ⟨rfl, hb⟩
        have HM2 := Lib.hid (HM.out.below ((Below.refl _ wr).drew.trans (hb.mono (by exact Nat.le_refl _))) rfl)
        have hbx2 := HM2.out.box.cell
        clear hb
        refine hK.out _ _ ?_ (fun hHeld => ?_)
        · try dsimp only
          go_keep
        clear hK K
        try simp only [Act.put, List.setIfInBounds_toArray, List.set_cons_zero, List.set_cons_succ]
        refine wpAnyH_take (i := 3) (oi := ?_) (v := ?_) ?_ (by kernel_rfl) (by kernel_rfl) (by kernel_rfl) ?_ ?_ (by assumption) ?_
        rotate_left 2
        · simp only [List.getElem?_toArray, List.getElem?_cons_succ, List.getElem?_cons_zero]; rfl
        · exact fun _ _ _ h => h
        · refine Or.inl ⟨?_, ?_⟩
          · rfl
          · intro w hSw; (try dsimp only at hSw); go_simp; exact bkq2 HE.out _
        try simp only [Act.put, List.setIfInBounds_toArray, List.set_cons_zero, List.set_cons_succ]
        refine wpAnyH_done (by kernel_rfl) ?_ _
        go_wp2_with fail
        go_ret2
        exact ⟨by rw [stI_at (by omega) HE.out HA.out]; rfl, HM2.out.bl⟩
    · have hl0 : wr.cell? ⟨w.heap.size + 1, 3, none⟩ = some (.iface 143 (.agg #[])) := hlx 3
      have hme := fun (f : Nat) (w : World) => insideState_meth f w
      clear hlx
      cases he : bkE 3 n i o
      · have HE := Lib.hid he
        clear he
        go_wp2_with fail
        refine wp_region_held_drew (S := (fun w' => w'.cell? ⟨w.heap.size, 0, none⟩ = some (.int .i64 n) ∧ w'.cell? ⟨w.heap.size, 1, none⟩ = some (.bool i) ∧ w'.cell? ⟨w.heap.size, 2, none⟩ = some (.bool o))) (by kernel_rfl) ?_ (fun hHeld => ?_)
        · try dsimp only
          go_keep
        refine wpAnyH_take (i := 0) (oi := ?_) (v := ?_) ?_ (by kernel_rfl) (by kernel_rfl) (by kernel_rfl) ?_ ?_ (by assumption) ?_
        rotate_left 2
        · simp only [List.getElem?_toArray, List.getElem?_cons_succ, List.getElem?_cons_zero]; rfl
        · exact fun _ _ _ h => h
        · first
            | (refine Or.inr ⟨?_, ?_⟩ <;> rfl)
            | (refine Or.inl ⟨?_, ?_⟩; · rfl
               intro w hSw; (try dsimp only at hSw); go_simp; (try with_reducible rfl); done)
        try simp only [Act.put, List.setIfInBounds_toArray, List.set_cons_zero, List.set_cons_succ]
        refine wpAnyH_take (i := 2) (oi := ?_) (v := ?_) ?_ (by kernel_rfl) (by kernel_rfl) (by kernel_rfl) ?_ ?_ (by assumption) ?_
        rotate_left 2
        · simp only [List.getElem?_toArray, List.getElem?_cons_succ, List.getElem?_cons_zero]; rfl
        · exact fun _ _ _ h => h
        · first
            | (refine Or.inr ⟨?_, ?_⟩ <;> rfl)
            | (refine Or.inl ⟨?_, ?_⟩; · rfl
               intro w hSw; (try dsimp only at hSw); go_simp; (try with_reducible rfl); done)
        try simp only [Act.put, List.setIfInBounds_toArray, List.set_cons_zero, List.set_cons_succ]
        refine wpAnyH_ready (rs := [1]) (by kernel_rfl) (by simp) ?_
        refine AllReadyH.cons (o := ?_) ?_ (fun K hK => ?_) AllReadyH.nil
        rotate_left 1
        · simp only [List.getElem?_toArray, List.getElem?_cons_succ, List.getElem?_cons_zero]; rfl
        go_simp
        go_at_call 155
        go_must (refine Calls.mono (insideState_block _) ?_)
        rintro e w2 ⟨rfl, hb⟩
        have HM2 := Lib.hid (HM.out.below ((Below.refl _ wr).drew.trans (hb.mono (by exact Nat.le_refl _))) rfl)
        have hbx2 := HM2.out.box.cell
        clear hb
        refine hK.out _ _ ?_ (fun hHeld => ?_)
        · try dsimp only
          go_keep
        clear hK K
        try simp only [Act.put, List.setIfInBounds_toArray, List.set_cons_zero, List.set_cons_succ]
        refine wpAnyH_take (i := 3) (oi := ?_) (v := ?_) ?_ (by kernel_rfl) (by kernel_rfl) (by kernel_rfl) ?_ ?_ (by assumption) ?_
        rotate_left 2
        · simp only [List.getElem?_toArray, List.getElem?_cons_succ, List.getElem?_cons_zero]; rfl
        · exact fun _ _ _ h => h
        · refine Or.inl ⟨?_, ?_⟩
          · rfl
          · intro w hSw; (try dsimp only at hSw); go_simp; exact bkq3 HE.out _
        try simp only [Act.put, List.setIfInBounds_toArray, List.set_cons_zero, List.set_cons_succ]
        refine wpAnyH_done (by kernel_rfl) ?_ _
        go_wp2_with fail
        go_roundw
        case rel => exact ⟨3 + 1, by omega, by first | rfl | go_num, Lib.hid (fun j hj => by
          by_cases e : j = 3
          · rw [e]; exact HE.out
          · exact HA.out j (by omega)), HM2.out⟩
        case measure => simp [intOf]
      · have HE := Lib.hid he
        clear he
        go_wp2_with fail
        refine wp_region_held_drew (S := (fun w' => w'.cell? ⟨w.heap.size, 0, none⟩ = some (.int .i64 n) ∧ w'.cell? ⟨w.heap.size, 1, none⟩ = some (.bool i) ∧ w'.cell? ⟨w.heap.size, 2, none⟩ = some (.bool o))) (by kernel_rfl) ?_ (fun hHeld => ?_)
        · try dsimp only
          go_keep
        refine wpAnyH_take (i := 0) (oi := ?_) (v := ?_) ?_ (by kernel_rfl) (by kernel_rfl) (by kernel_rfl) ?_ ?_ (by assumption) ?_
        rotate_left 2
        · simp only [List.getElem?_toArray, List.getElem?_cons_succ, List.getElem?_cons_zero]; rfl
        · exact fun _ _ _ h => h
        · first
            | (refine Or.inr ⟨?_, ?_⟩ <;> rfl)
            | (refine Or.inl ⟨?_, ?_⟩; · rfl
               intro w hSw; (try dsimp only at hSw); go_simp; (try with_reducible rfl); done)
        try simp only [Act.put, List.setIfInBounds_toArray, List.set_cons_zero, List.set_cons_succ]
        refine wpAnyH_take (i := 2) (oi := ?_) (v := ?_) ?_ (by kernel_rfl) (by kernel_rfl) (by kernel_rfl) ?_ ?_ (by assumption) ?_
        rotate_left 2
        · simp only [List.getElem?_toArray, List.getElem?_cons_succ, List.getElem?_cons_zero]; rfl
        · exact fun _ _ _ h => h
        · first
            | (refine Or.inr ⟨?_, ?_⟩ <;> rfl)
            | (refine Or.inl ⟨?_, ?_⟩; · rfl
               intro w hSw; (try dsimp only at hSw); go_simp; (try with_reducible rfl); done)
        try simp only [Act.put, List.setIfInBounds_toArray, List.set_cons_zero, List.set_cons_succ]
        refine wpAnyH_ready (rs := [1]) (by kernel_rfl) (by simp) ?_
        refine AllReadyH.cons (o := ?_) ?_ (fun K hK => ?_) AllReadyH.nil
        rotate_left 1
        · simp only [List.getElem?_toArray, List.getElem?_cons_succ, List.getElem?_cons_zero]; rfl
        go_simp
        go_at_call 155
        go_must (refine Calls.mono (insideState_block _) ?_)
        rintro e w2 ⟨rfl, hb⟩
        have HM2 := Lib.hid (HM.out.below ((Below.refl _ wr).drew.trans (hb.mono (by exact Nat.le_refl _))) rfl)
        have hbx2 := HM2.out.box.cell
        clear hb
        refine hK.out _ _ ?_ (fun hHeld => ?_)
        · try dsimp only
          go_keep
        clear hK K
        try simp only [Act.put, List.setIfInBounds_toArray, List.set_cons_zero, List.set_cons_succ]
        refine wpAnyH_take (i := 3) (oi := ?_) (v := ?_) ?_ (by kernel_rfl) (by kernel_rfl) (by kernel_rfl) ?_ ?_ (by assumption) ?_
        rotate_left 2
        · simp only [List.getElem?_toArray, List.getElem?_cons_succ, List.getElem?_cons_zero]; rfl
        · exact fun _ _ _ h => h
        · refine Or.inl ⟨?_, ?_⟩
          · rfl
          · intro w hSw; (try dsimp only at hSw); go_simp; exact bkq3 HE.out _
        try simp only [Act.put, List.setIfInBounds_toArray, List.set_cons_zero, List.set_cons_succ]
        refine wpAnyH_done (by kernel_rfl) ?_ _
        go_wp2_with fail
        go_ret2
        exact ⟨by rw [stI_at (by omega) HE.out HA.out]; rfl, HM2.out.bl⟩
    · have hl0 : wr.cell? ⟨w.heap.size + 1, 4, none⟩ = some (.iface 144 (.agg #[])) := hlx 4
      have hme := fun (f : Nat) (w : World) => passedState_meth f w
      clear hlx
      cases he : bkE 4 n i o
      · have HE := Lib.hid he
        clear he
        go_wp2_with fail
        refine wp_region_held_drew (S := (fun w' => w'.cell? ⟨w.heap.size, 0, none⟩ = some (.int .i64 n) ∧ w'.cell? ⟨w.heap.size, 1, none⟩ = some (.bool i) ∧ w'.cell? ⟨w.heap.size, 2, none⟩ = some (.bool o))) (by kernel_rfl) ?_ (fun hHeld => ?_)
        · try dsimp only
          go_keep
        refine wpAnyH_take (i := 0) (oi := ?_) (v := ?_) ?_ (by kernel_rfl) (by kernel_rfl) (by kernel_rfl) ?_ ?_ (by assumption) ?_
        rotate_left 2
        · simp only [List.getElem?_toArray, List.getElem?_cons_succ, List.getElem?_cons_zero]; rfl
        · exact fun _ _ _ h => h
        · first
            | (refine Or.inr ⟨?_, ?_⟩ <;> rfl)
            | (refine Or.inl ⟨?_, ?_⟩; · rfl
               intro w hSw; (try dsimp only at hSw); go_simp; (try with_reducible rfl); done)
        try simp only [Act.put, List.setIfInBounds_toArray, List.set_cons_zero, List.set_cons_succ]
        refine wpAnyH_take (i := 2) (oi := ?_) (v := ?_) ?_ (by kernel_rfl) (by kernel_rfl) (by kernel_rfl) ?_ ?_ (by assumption) ?_
        rotate_left 2
        · simp only [List.getElem?_toArray, List.getElem?_cons_succ, List.getElem?_cons_zero]; rfl
        · exact fun _ _ _ h => h
        · first
            | (refine Or.inr ⟨?_, ?_⟩ <;> rfl)
            | (refine Or.inl ⟨?_, ?_⟩; · rfl
               intro w hSw; (try dsimp only at hSw); go_simp; (try with_reducible rfl); done)
        try simp only [Act.put, List.setIfInBounds_toArray, List.set_cons_zero, List.set_cons_succ]
        refine wpAnyH_ready (rs := [1]) (by kernel_rfl) (by simp) ?_
        refine AllReadyH.cons (o := ?_) ?_ (fun K hK => ?_) AllReadyH.nil
        rotate_left 1
        · simp only [List.getElem?_toArray, List.getElem?_cons_succ, List.getElem?_cons_zero]; rfl
        go_simp
        go_at_call 156
        go_must (refine Calls.mono (passedState_block _) ?_)
        rintro e w2 ⟨rfl, hb⟩
        have HM2 := Lib.hid (HM.out.below ((Below.refl _ wr).drew.trans (hb.mono (by exact Nat.le_refl _))) rfl)
        have hbx2 := HM2.out.box.cell
        clear hb
        refine hK.out _ _ ?_ (fun hHeld => ?_)
        · try dsimp only
          go_keep
        clear hK K
        try simp only [Act.put, List.setIfInBounds_toArray, List.set_cons_zero, List.set_cons_succ]
        refine wpAnyH_take (i := 3) (oi := ?_) (v := ?_) ?_ (by kernel_rfl) (by kernel_rfl) (by kernel_rfl) ?_ ?_ (by assumption) ?_
        rotate_left 2
        · simp only [List.getElem?_toArray, List.getElem?_cons_succ, List.getElem?_cons_zero]; rfl
        · exact fun _ _ _ h => h
        · refine Or.inl ⟨?_, ?_⟩
          · rfl
          · intro w hSw; (try dsimp only at hSw); go_simp; exact bkq4 HE.out _
        try simp only [Act.put, List.setIfInBounds_toArray, List.set_cons_zero, List.set_cons_succ]
        refine wpAnyH_done (by kernel_rfl) ?_ _
        go_wp2_with fail
        go_roundw
        case rel => exact ⟨4 + 1, by omega, by first | rfl | go_num, Lib.hid (fun j hj => by
          by_cases e : j = 4
          · rw [e]; exact HE.out
          · exact HA.out j (by omega)), HM2.out⟩
        case measure => simp [intOf]
      · have HE := Lib.hid he
        clear he
        go_wp2_with fail
        refine wp_region_held_drew (S := (fun w' => w'.cell? ⟨w.heap.size, 0, none⟩ = some (.int .i64 n) ∧ w'.cell? ⟨w.heap.size, 1, none⟩ = some (.bool i) ∧ w'.cell? ⟨w.heap.size, 2, none⟩ = some (.bool o))) (by kernel_rfl) ?_ (fun hHeld => ?_)
        · try dsimp only
          go_keep
        refine wpAnyH_take (i := 0) (oi := ?_) (v := ?_) ?_ (by kernel_rfl) (by kernel_rfl) (by kernel_rfl) ?_ ?_ (by assumption) ?_
        rotate_left 2
        · simp only [List.getElem?_toArray, List.getElem?_cons_succ, List.getElem?_cons_zero]; rfl
        · exact fun _ _ _ h => h
        · first
            | (refine Or.inr ⟨?_, ?_⟩ <;> rfl)
            | (refine Or.inl ⟨?_, ?_⟩; · rfl
               intro w hSw; (try dsimp only at hSw); go_simp; (try with_reducible rfl); done)
        try simp only [Act.put, List.setIfInBounds_toArray, List.set_cons_zero, List.set_cons_succ]
        refine wpAnyH_take (i := 2) (oi := ?_) (v := ?_) ?_ (by kernel_rfl) (by kernel_rfl) (by kernel_rfl) ?_ ?_ (by assumption) ?_
        rotate_left 2
        · simp only [List.getElem?_toArray, List.getElem?_cons_succ, List.getElem?_cons_zero]; rfl
        · exact fun _ _ _ h => h
        · first
            | (refine Or.inr ⟨?_, ?_⟩ <;> rfl)
            | (refine Or.inl ⟨?_, ?_⟩; · rfl
               intro w hSw; (try dsimp only at hSw); go_simp; (try with_reducible rfl); done)
        try simp only [Act.put, List.setIfInBounds_toArray, List.set_cons_zero, List.set_cons_succ]
        refine wpAnyH_ready (rs := [1]) (by kernel_rfl) (by simp) ?_
        refine AllReadyH.cons (o := ?_) ?_ (fun K hK => ?_) AllReadyH.nil
        rotate_left 1
        · simp only [List.getElem?_toArray, List.getElem?_cons_succ, List.getElem?_cons_zero]; rfl
        go_simp
        go_at_call 156
        go_must (refine Calls.mono (passedState_block _) ?_)
        rintro e w2 ⟨rfl, hb⟩
        have HM2 := Lib.hid (HM.out.below ((Below.refl _ wr).drew.trans (hb.mono (by exact Nat.le_refl _))) rfl)
        have hbx2 := HM2.out.box.cell
        clear hb
        refine hK.out _ _ ?_ (fun hHeld => ?_)
        · try dsimp only
          go_keep
        clear hK K
        try simp only [Act.put, List.setIfInBounds_toArray, List.set_cons_zero, List.set_cons_succ]
        refine wpAnyH_take (i := 3) (oi := ?_) (v := ?_) ?_ (by kernel_rfl) (by kernel_rfl) (by kernel_rfl) ?_ ?_ (by assumption) ?_
        rotate_left 2
        · simp only [List.getElem?_toArray, List.getElem?_cons_succ, List.getElem?_cons_zero]; rfl
        · exact fun _ _ _ h => h
        · refine Or.inl ⟨?_, ?_⟩
          · rfl
          · intro w hSw; (try dsimp only at hSw); go_simp; exact bkq4 HE.out _
        try simp only [Act.put, List.setIfInBounds_toArray, List.set_cons_zero, List.set_cons_succ]
        refine wpAnyH_done (by kernel_rfl) ?_ _
        go_wp2_with fail
        go_ret2
        exact ⟨by rw [stI_at (by omega) HE.out HA.out]; rfl, HM2.out.bl⟩
    · have HN := Lib.hid (stI_no HA.out)
      go_wp2_with fail
      go_ret2
      exact ⟨by rw [HN.out]; rfl, HM.out.bl⟩
end Go.Proofs.Ytokddeoliieofaa
