/-
  Parts of the proof: Bk Bs. No condition.
-/
import Derived.Lib.Strings
import Derived.Test.YtlkdmpfifpkpaaaGreatDoorV02
namespace Go.Proofs.YtlkdmpfifpkpaaaGreatDoor
open Go.RowKit
structure Bk where
  n : Int
  i : Bool
  o : Bool
deriving DecidableEq
def stB : Nat → Bk
  | 0 => ⟨0, false, false⟩
  | 1 => ⟨0, false, true⟩
  | 2 => ⟨1, false, false⟩
  | 3 => ⟨2, true, false⟩
  | _ => ⟨2, false, false⟩
theorem normalState_meth (f : Nat) (w : World) : (method (f + 1) 133 (.agg #[]) "loop.example/blockboxes/impl.block").run Tryz.prog w = .ok (198, .agg #[]) w := by kernel_rfl
theorem offeredState_meth (f : Nat) (w : World) : (method (f + 1) 134 (.agg #[]) "loop.example/blockboxes/impl.block").run Tryz.prog w = .ok (199, .agg #[]) w := by kernel_rfl
theorem clearState_meth (f : Nat) (w : World) : (method (f + 1) 135 (.agg #[]) "loop.example/blockboxes/impl.block").run Tryz.prog w = .ok (200, .agg #[]) w := by kernel_rfl
theorem insideState_meth (f : Nat) (w : World) : (method (f + 1) 136 (.agg #[]) "loop.example/blockboxes/impl.block").run Tryz.prog w = .ok (201, .agg #[]) w := by kernel_rfl
theorem passedState_meth (f : Nat) (w : World) : (method (f + 1) 137 (.agg #[]) "loop.example/blockboxes/impl.block").run Tryz.prog w = .ok (202, .agg #[]) w := by kernel_rfl
theorem normalState_block (w : World) : Calls Tryz.prog 198 #[.agg #[]] w fun e w' => e = .returned (.agg #[.int .i64 0, .bool false, .bool false]) ∧ Below w.heap.size w w' := by
 go_enter Tryz.func198, Tryz.ntmps198
 go_wp2_with fail
 exact bodyPost_ret (v := .agg #[.int .i64 0, .bool false, .bool false]) (by simp [results, Tryz.results198, go_sem]) rfl ⟨rfl, ((Below.refl _ _).alloc (Nat.le_refl _) _).alloc (by simp) _⟩
theorem offeredState_block (w : World) : Calls Tryz.prog 199 #[.agg #[]] w fun e w' => e = .returned (.agg #[.int .i64 0, .bool false, .bool true]) ∧ Below w.heap.size w w' := by
 go_enter Tryz.func199, Tryz.ntmps199
 go_wp2_with fail
 exact bodyPost_ret (v := .agg #[.int .i64 0, .bool false, .bool true]) (by simp [results, Tryz.results199, go_sem]) rfl ⟨rfl, ((Below.refl _ _).alloc (Nat.le_refl _) _).alloc (by simp) _⟩
theorem clearState_block (w : World) : Calls Tryz.prog 200 #[.agg #[]] w fun e w' => e = .returned (.agg #[.int .i64 1, .bool false, .bool false]) ∧ Below w.heap.size w w' := by
 go_enter Tryz.func200, Tryz.ntmps200
 go_wp2_with fail
 exact bodyPost_ret (v := .agg #[.int .i64 1, .bool false, .bool false]) (by simp [results, Tryz.results200, go_sem]) rfl ⟨rfl, ((Below.refl _ _).alloc (Nat.le_refl _) _).alloc (by simp) _⟩
theorem insideState_block (w : World) : Calls Tryz.prog 201 #[.agg #[]] w fun e w' => e = .returned (.agg #[.int .i64 2, .bool true, .bool false]) ∧ Below w.heap.size w w' := by
 go_enter Tryz.func201, Tryz.ntmps201
 go_wp2_with fail
 exact bodyPost_ret (v := .agg #[.int .i64 2, .bool true, .bool false]) (by simp [results, Tryz.results201, go_sem]) rfl ⟨rfl, ((Below.refl _ _).alloc (Nat.le_refl _) _).alloc (by simp) _⟩
theorem passedState_block (w : World) : Calls Tryz.prog 202 #[.agg #[]] w fun e w' => e = .returned (.agg #[.int .i64 2, .bool false, .bool false]) ∧ Below w.heap.size w w' := by
 go_enter Tryz.func202, Tryz.ntmps202
 go_wp2_with fail
 exact bodyPost_ret (v := .agg #[.int .i64 2, .bool false, .bool false]) (by simp [results, Tryz.results202, go_sem]) rfl ⟨rfl, ((Below.refl _ _).alloc (Nat.le_refl _) _).alloc (by simp) _⟩
def ifV : Nat → Value
  | 0 => .iface 133 (.agg #[])
  | 1 => .iface 134 (.agg #[])
  | 2 => .iface 135 (.agg #[])
  | 3 => .iface 136 (.agg #[])
  | _ => .iface 137 (.agg #[])
def allI : Array Value := #[.iface 133 (.agg #[]), .iface 134 (.agg #[]), .iface 135 (.agg #[]), .iface 136 (.agg #[]), .iface 137 (.agg #[])]
structure InM (w wr : World) (n : Int) (i o : Bool) : Prop where
  box : Bx wr w.heap.size 76 #[.int .i64 n, .bool i, .bool o]
  lit : Bx wr (w.heap.size + 1) 103 allI
  bl : Below w.heap.size w wr
theorem InM.below {w wr w' : World} {n : Int} {i o : Bool} {B : Nat} (h : InM w wr n i o) (hb : Below B wr w') (hB : B = wr.heap.size) : InM w w' n i o := by
 subst hB
 exact ⟨h.box.below hb h.box.lt, h.lit.below hb h.lit.lt, h.bl.trans (hb.mono h.bl.size)⟩
def bkE (k : Nat) (n : Int) (i o : Bool) : Bool := decide ((stB k).n = n) && (decide ((stB k).i = i) && decide ((stB k).o = o))
theorem bkq0 {n : Int} {i o b : Bool} (h : bkE 0 n i o = b) (w : World) : (if 0 = n then (if i = true then Result.ok (Next.value (Value.bool false)) w else if o = true then Result.ok (Next.value (Value.bool false)) w else Result.ok (Next.value (Value.bool true)) w) else Result.ok (Next.value (Value.bool false)) w) = Result.ok (Next.value (Value.bool b)) w := by
 subst h
 cases i <;> cases o <;> by_cases h0 : (0 : Int) = n <;> simp [bkE, stB, h0]
theorem bkq1 {n : Int} {i o b : Bool} (h : bkE 1 n i o = b) (w : World) : (if 0 = n then (if i = true then Result.ok (Next.value (Value.bool false)) w else if o = false then Result.ok (Next.value (Value.bool false)) w else Result.ok (Next.value (Value.bool true)) w) else Result.ok (Next.value (Value.bool false)) w) = Result.ok (Next.value (Value.bool b)) w := by
 subst h
 cases i <;> cases o <;> by_cases h0 : (0 : Int) = n <;> simp [bkE, stB, h0]
theorem bkq2 {n : Int} {i o b : Bool} (h : bkE 2 n i o = b) (w : World) : (if 1 = n then (if i = true then Result.ok (Next.value (Value.bool false)) w else if o = true then Result.ok (Next.value (Value.bool false)) w else Result.ok (Next.value (Value.bool true)) w) else Result.ok (Next.value (Value.bool false)) w) = Result.ok (Next.value (Value.bool b)) w := by
 subst h
 cases i <;> cases o <;> by_cases h0 : (1 : Int) = n <;> simp [bkE, stB, h0]
theorem bkq3 {n : Int} {i o b : Bool} (h : bkE 3 n i o = b) (w : World) : (if 2 = n then (if i = false then Result.ok (Next.value (Value.bool false)) w else if o = true then Result.ok (Next.value (Value.bool false)) w else Result.ok (Next.value (Value.bool true)) w) else Result.ok (Next.value (Value.bool false)) w) = Result.ok (Next.value (Value.bool b)) w := by
 subst h
 cases i <;> cases o <;> by_cases h0 : (2 : Int) = n <;> simp [bkE, stB, h0]
theorem bkq4 {n : Int} {i o b : Bool} (h : bkE 4 n i o = b) (w : World) : (if 2 = n then (if i = true then Result.ok (Next.value (Value.bool false)) w else if o = true then Result.ok (Next.value (Value.bool false)) w else Result.ok (Next.value (Value.bool true)) w) else Result.ok (Next.value (Value.bool false)) w) = Result.ok (Next.value (Value.bool b)) w := by
 subst h
 cases i <;> cases o <;> by_cases h0 : (2 : Int) = n <;> simp [bkE, stB, h0]
def stI (n : Int) (i o : Bool) : Nat := if bkE 0 n i o = true then 0 else if bkE 1 n i o = true then 1 else if bkE 2 n i o = true then 2 else if bkE 3 n i o = true then 3 else if bkE 4 n i o = true then 4 else 5
def inV (k : Nat) : Value := if k < 5 then ifV k else .nilIface
theorem stI_at {n : Int} {i o : Bool} {k : Nat} (hk : k < 5) (h : bkE k n i o = true) (hn : ∀ j, j < k → bkE j n i o = false) : stI n i o = k := by
 have h5 : k = 0 ∨ k = 1 ∨ k = 2 ∨ k = 3 ∨ k = 4 := by omega
 unfold stI
 rcases h5 with rfl | rfl | rfl | rfl | rfl
 ·rw [if_pos h]
 ·rw [hn 0 (by omega), if_neg (by simp), if_pos h]
 ·rw [hn 0 (by omega), hn 1 (by omega), if_neg (by simp), if_neg (by simp), if_pos h]
 ·rw [hn 0 (by omega), hn 1 (by omega), hn 2 (by omega), if_neg (by simp), if_neg (by simp), if_neg (by simp), if_pos h]
 ·rw [hn 0 (by omega), hn 1 (by omega), hn 2 (by omega), hn 3 (by omega), if_neg (by simp), if_neg (by simp), if_neg (by simp), if_neg (by simp), if_pos h]
theorem stI_no {n : Int} {i o : Bool} (hn : ∀ j, j < 5 → bkE j n i o = false) : stI n i o = 5 := by
 unfold stI
 rw [hn 0 (by omega), hn 1 (by omega), hn 2 (by omega), hn 3 (by omega), hn 4 (by omega)]
 simp
set_option linter.unusedSimpArgs false in
set_option maxRecDepth 100000 in
set_option maxHeartbeats 4000000 in
theorem instr_any (n : Int) (i o : Bool) (w : World) :
    Calls Tryz.prog 66 #[.agg #[.int .i64 n, .bool i, .bool o]] w fun e w' => e = .returned (.tuple #[inV (stI n i o), .bool (decide (stI n i o < 5))]) ∧ Below w.heap.size w w' := by
  go_enter Tryz.func66, Tryz.ntmps66
  go_wp2_with fail
  go_loopw [20] (fun s wr => ∃ k : Nat, k ≤ 5 ∧ s = .int .i64 k ∧ Hid (∀ j, j < k → bkE j n i o = false) ∧ InM w wr n i o) (fun s _ => 5 - (intOf s).toNat)
  case atStart => exact ⟨0, by omega, rfl, Lib.hid (fun j hj => by omega), ⟨(Bx.new _ _ _).alloc _, Bx.newAt (by simp), ((Below.refl _ _).alloc (Nat.le_refl _) _).alloc (by simp) _⟩⟩
  case round =>
   obtain ⟨k, hk, rfl, HA, hm⟩ := hrel
   have HM := Lib.hid hm
   have hbx := hm.box.cell
   have hlx := hm.lit.cell
   clear hm
   have h5 : k = 0 ∨ k = 1 ∨ k = 2 ∨ k = 3 ∨ k = 4 ∨ k = 5 := by omega
   rcases h5 with rfl | rfl | rfl | rfl | rfl | rfl
   ·have hl0 : wr.cell? ⟨w.heap.size + 1, 0, none⟩ = some (.iface 133 (.agg #[])) := hlx 0
    have hme := fun (f : Nat) (w : World) => normalState_meth f w
    clear hlx
    cases he : bkE 0 n i o
    ·have HE := Lib.hid he
     clear he
     go_wp2_with fail
     refine wp_region_held_drew (S := (fun w' => w'.cell? ⟨w.heap.size, 0, none⟩ = some (.int .i64 n) ∧ w'.cell? ⟨w.heap.size, 1, none⟩ = some (.bool i) ∧ w'.cell? ⟨w.heap.size, 2, none⟩ = some (.bool o))) (by kernel_rfl) ?_ (fun hHeld => ?_)
     ·try dsimp only
      go_keep
     refine tkR 0 ?_
     refine tkR 2 ?_
     refine r1R 1 (fun K hK => ?_)
     go_simp
     go_at_call 198
     go_must (refine Calls.mono (normalState_block _) ?_)
     rintro e w2 ⟨rfl, hb⟩
     have HM2 := Lib.hid (HM.out.below ((Below.refl _ wr).drew.trans (hb.mono (by exact Nat.le_refl _))) rfl)
     have hbx2 := HM2.out.box.cell
     clear hb
     refine oR hK ?_ (fun hHeld => ?_)
     ·try dsimp only
      go_keep
     clear hK K
     refine wpAnyH_take (i := 3) (oi := ?_) (v := ?_) ?_ (by kernel_rfl) (by kernel_rfl) (by kernel_rfl) ?_ ?_ (by assumption) ?_
     rotate_left 2
     ·simp only [List.getElem?_toArray, List.getElem?_cons_succ, List.getElem?_cons_zero]; rfl
     ·exact fun _ _ _ h => h
     ·refine Or.inl ⟨?_, ?_⟩
      ·rfl
      ·intro w hSw; (try dsimp only at hSw); go_simp; exact bkq0 HE.out _
     try simp only [Act.put, List.setIfInBounds_toArray, List.set_cons_zero, List.set_cons_succ]
     refine wpAnyH_done (by kernel_rfl) ?_ _
     go_wp2_with fail
     go_roundw
     case rel => exact ⟨0 + 1, by omega, by first | rfl | go_num, Lib.hid (fun j hj => by
      by_cases e : j = 0
      ·rw [e]; exact HE.out
      ·exact HA.out j (by omega)), HM2.out⟩
     case measure => simp [intOf]
    ·have HE := Lib.hid he
     clear he
     go_wp2_with fail
     refine wp_region_held_drew (S := (fun w' => w'.cell? ⟨w.heap.size, 0, none⟩ = some (.int .i64 n) ∧ w'.cell? ⟨w.heap.size, 1, none⟩ = some (.bool i) ∧ w'.cell? ⟨w.heap.size, 2, none⟩ = some (.bool o))) (by kernel_rfl) ?_ (fun hHeld => ?_)
     ·try dsimp only
      go_keep
     refine tkR 0 ?_
     refine tkR 2 ?_
     refine r1R 1 (fun K hK => ?_)
     go_simp
     go_at_call 198
     go_must (refine Calls.mono (normalState_block _) ?_)
     rintro e w2 ⟨rfl, hb⟩
     have HM2 := Lib.hid (HM.out.below ((Below.refl _ wr).drew.trans (hb.mono (by exact Nat.le_refl _))) rfl)
     have hbx2 := HM2.out.box.cell
     clear hb
     refine oR hK ?_ (fun hHeld => ?_)
     ·try dsimp only
      go_keep
     clear hK K
     refine wpAnyH_take (i := 3) (oi := ?_) (v := ?_) ?_ (by kernel_rfl) (by kernel_rfl) (by kernel_rfl) ?_ ?_ (by assumption) ?_
     rotate_left 2
     ·simp only [List.getElem?_toArray, List.getElem?_cons_succ, List.getElem?_cons_zero]; rfl
     ·exact fun _ _ _ h => h
     ·refine Or.inl ⟨?_, ?_⟩
      ·rfl
      ·intro w hSw; (try dsimp only at hSw); go_simp; exact bkq0 HE.out _
     try simp only [Act.put, List.setIfInBounds_toArray, List.set_cons_zero, List.set_cons_succ]
     refine wpAnyH_done (by kernel_rfl) ?_ _
     go_wp2_with fail
     go_ret2
     exact ⟨by rw [stI_at (by omega) HE.out HA.out]; rfl, HM2.out.bl⟩
   ·have hl0 : wr.cell? ⟨w.heap.size + 1, 1, none⟩ = some (.iface 134 (.agg #[])) := hlx 1
    have hme := fun (f : Nat) (w : World) => offeredState_meth f w
    clear hlx
    cases he : bkE 1 n i o
    ·have HE := Lib.hid he
     clear he
     go_wp2_with fail
     refine wp_region_held_drew (S := (fun w' => w'.cell? ⟨w.heap.size, 0, none⟩ = some (.int .i64 n) ∧ w'.cell? ⟨w.heap.size, 1, none⟩ = some (.bool i) ∧ w'.cell? ⟨w.heap.size, 2, none⟩ = some (.bool o))) (by kernel_rfl) ?_ (fun hHeld => ?_)
     ·try dsimp only
      go_keep
     refine tkR 0 ?_
     refine tkR 2 ?_
     refine r1R 1 (fun K hK => ?_)
     go_simp
     go_at_call 199
     go_must (refine Calls.mono (offeredState_block _) ?_)
     rintro e w2 ⟨rfl, hb⟩
     have HM2 := Lib.hid (HM.out.below ((Below.refl _ wr).drew.trans (hb.mono (by exact Nat.le_refl _))) rfl)
     have hbx2 := HM2.out.box.cell
     clear hb
     refine oR hK ?_ (fun hHeld => ?_)
     ·try dsimp only
      go_keep
     clear hK K
     refine wpAnyH_take (i := 3) (oi := ?_) (v := ?_) ?_ (by kernel_rfl) (by kernel_rfl) (by kernel_rfl) ?_ ?_ (by assumption) ?_
     rotate_left 2
     ·simp only [List.getElem?_toArray, List.getElem?_cons_succ, List.getElem?_cons_zero]; rfl
     ·exact fun _ _ _ h => h
     ·refine Or.inl ⟨?_, ?_⟩
      ·rfl
      ·intro w hSw; (try dsimp only at hSw); go_simp; exact bkq1 HE.out _
     try simp only [Act.put, List.setIfInBounds_toArray, List.set_cons_zero, List.set_cons_succ]
     refine wpAnyH_done (by kernel_rfl) ?_ _
     go_wp2_with fail
     go_roundw
     case rel => exact ⟨1 + 1, by omega, by first | rfl | go_num, Lib.hid (fun j hj => by
      by_cases e : j = 1
      ·rw [e]; exact HE.out
      ·exact HA.out j (by omega)), HM2.out⟩
     case measure => simp [intOf]
    ·have HE := Lib.hid he
     clear he
     go_wp2_with fail
     refine wp_region_held_drew (S := (fun w' => w'.cell? ⟨w.heap.size, 0, none⟩ = some (.int .i64 n) ∧ w'.cell? ⟨w.heap.size, 1, none⟩ = some (.bool i) ∧ w'.cell? ⟨w.heap.size, 2, none⟩ = some (.bool o))) (by kernel_rfl) ?_ (fun hHeld => ?_)
     ·try dsimp only
      go_keep
     refine tkR 0 ?_
     refine tkR 2 ?_
     refine r1R 1 (fun K hK => ?_)
     go_simp
     go_at_call 199
     go_must (refine Calls.mono (offeredState_block _) ?_)
     rintro e w2 ⟨rfl, hb⟩
     have HM2 := Lib.hid (HM.out.below ((Below.refl _ wr).drew.trans (hb.mono (by exact Nat.le_refl _))) rfl)
     have hbx2 := HM2.out.box.cell
     clear hb
     refine oR hK ?_ (fun hHeld => ?_)
     ·try dsimp only
      go_keep
     clear hK K
     refine wpAnyH_take (i := 3) (oi := ?_) (v := ?_) ?_ (by kernel_rfl) (by kernel_rfl) (by kernel_rfl) ?_ ?_ (by assumption) ?_
     rotate_left 2
     ·simp only [List.getElem?_toArray, List.getElem?_cons_succ, List.getElem?_cons_zero]; rfl
     ·exact fun _ _ _ h => h
     ·refine Or.inl ⟨?_, ?_⟩
      ·rfl
      ·intro w hSw; (try dsimp only at hSw); go_simp; exact bkq1 HE.out _
     try simp only [Act.put, List.setIfInBounds_toArray, List.set_cons_zero, List.set_cons_succ]
     refine wpAnyH_done (by kernel_rfl) ?_ _
     go_wp2_with fail
     go_ret2
     exact ⟨by rw [stI_at (by omega) HE.out HA.out]; rfl, HM2.out.bl⟩
   ·have hl0 : wr.cell? ⟨w.heap.size + 1, 2, none⟩ = some (.iface 135 (.agg #[])) := hlx 2
    have hme := fun (f : Nat) (w : World) => clearState_meth f w
    clear hlx
    cases he : bkE 2 n i o
    ·have HE := Lib.hid he
     clear he
     go_wp2_with fail
     refine wp_region_held_drew (S := (fun w' => w'.cell? ⟨w.heap.size, 0, none⟩ = some (.int .i64 n) ∧ w'.cell? ⟨w.heap.size, 1, none⟩ = some (.bool i) ∧ w'.cell? ⟨w.heap.size, 2, none⟩ = some (.bool o))) (by kernel_rfl) ?_ (fun hHeld => ?_)
     ·try dsimp only
      go_keep
     refine tkR 0 ?_
     refine tkR 2 ?_
     refine r1R 1 (fun K hK => ?_)
     go_simp
     go_at_call 200
     go_must (refine Calls.mono (clearState_block _) ?_)
     rintro e w2 ⟨rfl, hb⟩
     have HM2 := Lib.hid (HM.out.below ((Below.refl _ wr).drew.trans (hb.mono (by exact Nat.le_refl _))) rfl)
     have hbx2 := HM2.out.box.cell
     clear hb
     refine oR hK ?_ (fun hHeld => ?_)
     ·try dsimp only
      go_keep
     clear hK K
     refine wpAnyH_take (i := 3) (oi := ?_) (v := ?_) ?_ (by kernel_rfl) (by kernel_rfl) (by kernel_rfl) ?_ ?_ (by assumption) ?_
     rotate_left 2
     ·simp only [List.getElem?_toArray, List.getElem?_cons_succ, List.getElem?_cons_zero]; rfl
     ·exact fun _ _ _ h => h
     ·refine Or.inl ⟨?_, ?_⟩
      ·rfl
      ·intro w hSw; (try dsimp only at hSw); go_simp; exact bkq2 HE.out _
     try simp only [Act.put, List.setIfInBounds_toArray, List.set_cons_zero, List.set_cons_succ]
     refine wpAnyH_done (by kernel_rfl) ?_ _
     go_wp2_with fail
     go_roundw
     case rel => exact ⟨2 + 1, by omega, by first | rfl | go_num, Lib.hid (fun j hj => by
      by_cases e : j = 2
      ·rw [e]; exact HE.out
      ·exact HA.out j (by omega)), HM2.out⟩
     case measure => simp [intOf]
    ·have HE := Lib.hid he
     clear he
     go_wp2_with fail
     refine wp_region_held_drew (S := (fun w' => w'.cell? ⟨w.heap.size, 0, none⟩ = some (.int .i64 n) ∧ w'.cell? ⟨w.heap.size, 1, none⟩ = some (.bool i) ∧ w'.cell? ⟨w.heap.size, 2, none⟩ = some (.bool o))) (by kernel_rfl) ?_ (fun hHeld => ?_)
     ·try dsimp only
      go_keep
     refine tkR 0 ?_
     refine tkR 2 ?_
     refine r1R 1 (fun K hK => ?_)
     go_simp
     go_at_call 200
     go_must (refine Calls.mono (clearState_block _) ?_)
     rintro e w2 ⟨rfl, hb⟩
     have HM2 := Lib.hid (HM.out.below ((Below.refl _ wr).drew.trans (hb.mono (by exact Nat.le_refl _))) rfl)
     have hbx2 := HM2.out.box.cell
     clear hb
     refine oR hK ?_ (fun hHeld => ?_)
     ·try dsimp only
      go_keep
     clear hK K
     refine wpAnyH_take (i := 3) (oi := ?_) (v := ?_) ?_ (by kernel_rfl) (by kernel_rfl) (by kernel_rfl) ?_ ?_ (by assumption) ?_
     rotate_left 2
     ·simp only [List.getElem?_toArray, List.getElem?_cons_succ, List.getElem?_cons_zero]; rfl
     ·exact fun _ _ _ h => h
     ·refine Or.inl ⟨?_, ?_⟩
      ·rfl
      ·intro w hSw; (try dsimp only at hSw); go_simp; exact bkq2 HE.out _
     try simp only [Act.put, List.setIfInBounds_toArray, List.set_cons_zero, List.set_cons_succ]
     refine wpAnyH_done (by kernel_rfl) ?_ _
     go_wp2_with fail
     go_ret2
     exact ⟨by rw [stI_at (by omega) HE.out HA.out]; rfl, HM2.out.bl⟩
   ·have hl0 : wr.cell? ⟨w.heap.size + 1, 3, none⟩ = some (.iface 136 (.agg #[])) := hlx 3
    have hme := fun (f : Nat) (w : World) => insideState_meth f w
    clear hlx
    cases he : bkE 3 n i o
    ·have HE := Lib.hid he
     clear he
     go_wp2_with fail
     refine wp_region_held_drew (S := (fun w' => w'.cell? ⟨w.heap.size, 0, none⟩ = some (.int .i64 n) ∧ w'.cell? ⟨w.heap.size, 1, none⟩ = some (.bool i) ∧ w'.cell? ⟨w.heap.size, 2, none⟩ = some (.bool o))) (by kernel_rfl) ?_ (fun hHeld => ?_)
     ·try dsimp only
      go_keep
     refine tkR 0 ?_
     refine tkR 2 ?_
     refine r1R 1 (fun K hK => ?_)
     go_simp
     go_at_call 201
     go_must (refine Calls.mono (insideState_block _) ?_)
     rintro e w2 ⟨rfl, hb⟩
     have HM2 := Lib.hid (HM.out.below ((Below.refl _ wr).drew.trans (hb.mono (by exact Nat.le_refl _))) rfl)
     have hbx2 := HM2.out.box.cell
     clear hb
     refine oR hK ?_ (fun hHeld => ?_)
     ·try dsimp only
      go_keep
     clear hK K
     refine wpAnyH_take (i := 3) (oi := ?_) (v := ?_) ?_ (by kernel_rfl) (by kernel_rfl) (by kernel_rfl) ?_ ?_ (by assumption) ?_
     rotate_left 2
     ·simp only [List.getElem?_toArray, List.getElem?_cons_succ, List.getElem?_cons_zero]; rfl
     ·exact fun _ _ _ h => h
     ·refine Or.inl ⟨?_, ?_⟩
      ·rfl
      ·intro w hSw; (try dsimp only at hSw); go_simp; exact bkq3 HE.out _
     try simp only [Act.put, List.setIfInBounds_toArray, List.set_cons_zero, List.set_cons_succ]
     refine wpAnyH_done (by kernel_rfl) ?_ _
     go_wp2_with fail
     go_roundw
     case rel => exact ⟨3 + 1, by omega, by first | rfl | go_num, Lib.hid (fun j hj => by
      by_cases e : j = 3
      ·rw [e]; exact HE.out
      ·exact HA.out j (by omega)), HM2.out⟩
     case measure => simp [intOf]
    ·have HE := Lib.hid he
     clear he
     go_wp2_with fail
     refine wp_region_held_drew (S := (fun w' => w'.cell? ⟨w.heap.size, 0, none⟩ = some (.int .i64 n) ∧ w'.cell? ⟨w.heap.size, 1, none⟩ = some (.bool i) ∧ w'.cell? ⟨w.heap.size, 2, none⟩ = some (.bool o))) (by kernel_rfl) ?_ (fun hHeld => ?_)
     ·try dsimp only
      go_keep
     refine tkR 0 ?_
     refine tkR 2 ?_
     refine r1R 1 (fun K hK => ?_)
     go_simp
     go_at_call 201
     go_must (refine Calls.mono (insideState_block _) ?_)
     rintro e w2 ⟨rfl, hb⟩
     have HM2 := Lib.hid (HM.out.below ((Below.refl _ wr).drew.trans (hb.mono (by exact Nat.le_refl _))) rfl)
     have hbx2 := HM2.out.box.cell
     clear hb
     refine oR hK ?_ (fun hHeld => ?_)
     ·try dsimp only
      go_keep
     clear hK K
     refine wpAnyH_take (i := 3) (oi := ?_) (v := ?_) ?_ (by kernel_rfl) (by kernel_rfl) (by kernel_rfl) ?_ ?_ (by assumption) ?_
     rotate_left 2
     ·simp only [List.getElem?_toArray, List.getElem?_cons_succ, List.getElem?_cons_zero]; rfl
     ·exact fun _ _ _ h => h
     ·refine Or.inl ⟨?_, ?_⟩
      ·rfl
      ·intro w hSw; (try dsimp only at hSw); go_simp; exact bkq3 HE.out _
     try simp only [Act.put, List.setIfInBounds_toArray, List.set_cons_zero, List.set_cons_succ]
     refine wpAnyH_done (by kernel_rfl) ?_ _
     go_wp2_with fail
     go_ret2
     exact ⟨by rw [stI_at (by omega) HE.out HA.out]; rfl, HM2.out.bl⟩
   ·have hl0 : wr.cell? ⟨w.heap.size + 1, 4, none⟩ = some (.iface 137 (.agg #[])) := hlx 4
    have hme := fun (f : Nat) (w : World) => passedState_meth f w
    clear hlx
    cases he : bkE 4 n i o
    ·have HE := Lib.hid he
     clear he
     go_wp2_with fail
     refine wp_region_held_drew (S := (fun w' => w'.cell? ⟨w.heap.size, 0, none⟩ = some (.int .i64 n) ∧ w'.cell? ⟨w.heap.size, 1, none⟩ = some (.bool i) ∧ w'.cell? ⟨w.heap.size, 2, none⟩ = some (.bool o))) (by kernel_rfl) ?_ (fun hHeld => ?_)
     ·try dsimp only
      go_keep
     refine tkR 0 ?_
     refine tkR 2 ?_
     refine r1R 1 (fun K hK => ?_)
     go_simp
     go_at_call 202
     go_must (refine Calls.mono (passedState_block _) ?_)
     rintro e w2 ⟨rfl, hb⟩
     have HM2 := Lib.hid (HM.out.below ((Below.refl _ wr).drew.trans (hb.mono (by exact Nat.le_refl _))) rfl)
     have hbx2 := HM2.out.box.cell
     clear hb
     refine oR hK ?_ (fun hHeld => ?_)
     ·try dsimp only
      go_keep
     clear hK K
     refine wpAnyH_take (i := 3) (oi := ?_) (v := ?_) ?_ (by kernel_rfl) (by kernel_rfl) (by kernel_rfl) ?_ ?_ (by assumption) ?_
     rotate_left 2
     ·simp only [List.getElem?_toArray, List.getElem?_cons_succ, List.getElem?_cons_zero]; rfl
     ·exact fun _ _ _ h => h
     ·refine Or.inl ⟨?_, ?_⟩
      ·rfl
      ·intro w hSw; (try dsimp only at hSw); go_simp; exact bkq4 HE.out _
     try simp only [Act.put, List.setIfInBounds_toArray, List.set_cons_zero, List.set_cons_succ]
     refine wpAnyH_done (by kernel_rfl) ?_ _
     go_wp2_with fail
     go_roundw
     case rel => exact ⟨4 + 1, by omega, by first | rfl | go_num, Lib.hid (fun j hj => by
      by_cases e : j = 4
      ·rw [e]; exact HE.out
      ·exact HA.out j (by omega)), HM2.out⟩
     case measure => simp [intOf]
    ·have HE := Lib.hid he
     clear he
     go_wp2_with fail
     refine wp_region_held_drew (S := (fun w' => w'.cell? ⟨w.heap.size, 0, none⟩ = some (.int .i64 n) ∧ w'.cell? ⟨w.heap.size, 1, none⟩ = some (.bool i) ∧ w'.cell? ⟨w.heap.size, 2, none⟩ = some (.bool o))) (by kernel_rfl) ?_ (fun hHeld => ?_)
     ·try dsimp only
      go_keep
     refine tkR 0 ?_
     refine tkR 2 ?_
     refine r1R 1 (fun K hK => ?_)
     go_simp
     go_at_call 202
     go_must (refine Calls.mono (passedState_block _) ?_)
     rintro e w2 ⟨rfl, hb⟩
     have HM2 := Lib.hid (HM.out.below ((Below.refl _ wr).drew.trans (hb.mono (by exact Nat.le_refl _))) rfl)
     have hbx2 := HM2.out.box.cell
     clear hb
     refine oR hK ?_ (fun hHeld => ?_)
     ·try dsimp only
      go_keep
     clear hK K
     refine wpAnyH_take (i := 3) (oi := ?_) (v := ?_) ?_ (by kernel_rfl) (by kernel_rfl) (by kernel_rfl) ?_ ?_ (by assumption) ?_
     rotate_left 2
     ·simp only [List.getElem?_toArray, List.getElem?_cons_succ, List.getElem?_cons_zero]; rfl
     ·exact fun _ _ _ h => h
     ·refine Or.inl ⟨?_, ?_⟩
      ·rfl
      ·intro w hSw; (try dsimp only at hSw); go_simp; exact bkq4 HE.out _
     try simp only [Act.put, List.setIfInBounds_toArray, List.set_cons_zero, List.set_cons_succ]
     refine wpAnyH_done (by kernel_rfl) ?_ _
     go_wp2_with fail
     go_ret2
     exact ⟨by rw [stI_at (by omega) HE.out HA.out]; rfl, HM2.out.bl⟩
   ·have HN := Lib.hid (stI_no HA.out)
    go_wp2_with fail
    go_ret2
    exact ⟨by rw [HN.out]; rfl, HM.out.bl⟩
def nx (k : Nat) (c : Int) : Nat :=
 match k with
 | 0 => if c = 111 then 1 else 5
 | 1 => if c = 114 then 0 else if c = 97 then 2 else 5
 | 2 => if c = 99 then 0 else if c = 101 then 3 else 5
 | 3 => if c = 108 then 4 else 5
 | 4 => if c = 102 then 0 else 5
 | _ => 5
theorem nx_le : ∀ (k : Nat) (c : Int), nx k c ≤ 5
  | 0, c => by simp only [nx]; split <;> omega
  | 1, c => by simp only [nx]; split <;> (try split) <;> omega
  | 2, c => by simp only [nx]; split <;> (try split) <;> omega
  | 3, c => by simp only [nx]; split <;> omega
  | 4, c => by simp only [nx]; split <;> omega
  | k + 5, c => by simp [nx]
def sbV (k : Nat) (c : Int) : Value := if nx k c < 5 then ifV (nx k c) else ifV k
theorem ta00 (w : World) : (Instr.typeAssert (.iface 133 (.agg #[])) 103 133 true).run Tryz.prog w = .ok (.tuple #[.agg #[], .bool true]) w := by kernel_rfl
theorem ta10 (w : World) : (Instr.typeAssert (.iface 134 (.agg #[])) 103 133 true).run Tryz.prog w = .ok (.tuple #[.agg #[], .bool false]) w := by kernel_rfl
theorem ta11 (w : World) : (Instr.typeAssert (.iface 134 (.agg #[])) 103 134 true).run Tryz.prog w = .ok (.tuple #[.agg #[], .bool true]) w := by kernel_rfl
theorem ta20 (w : World) : (Instr.typeAssert (.iface 135 (.agg #[])) 103 133 true).run Tryz.prog w = .ok (.tuple #[.agg #[], .bool false]) w := by kernel_rfl
theorem ta21 (w : World) : (Instr.typeAssert (.iface 135 (.agg #[])) 103 134 true).run Tryz.prog w = .ok (.tuple #[.agg #[], .bool false]) w := by kernel_rfl
theorem ta22 (w : World) : (Instr.typeAssert (.iface 135 (.agg #[])) 103 135 true).run Tryz.prog w = .ok (.tuple #[.agg #[], .bool true]) w := by kernel_rfl
theorem ta30 (w : World) : (Instr.typeAssert (.iface 136 (.agg #[])) 103 133 true).run Tryz.prog w = .ok (.tuple #[.agg #[], .bool false]) w := by kernel_rfl
theorem ta31 (w : World) : (Instr.typeAssert (.iface 136 (.agg #[])) 103 134 true).run Tryz.prog w = .ok (.tuple #[.agg #[], .bool false]) w := by kernel_rfl
theorem ta32 (w : World) : (Instr.typeAssert (.iface 136 (.agg #[])) 103 135 true).run Tryz.prog w = .ok (.tuple #[.agg #[], .bool false]) w := by kernel_rfl
theorem ta33 (w : World) : (Instr.typeAssert (.iface 136 (.agg #[])) 103 136 true).run Tryz.prog w = .ok (.tuple #[.agg #[], .bool true]) w := by kernel_rfl
theorem ta40 (w : World) : (Instr.typeAssert (.iface 137 (.agg #[])) 103 133 true).run Tryz.prog w = .ok (.tuple #[.agg #[], .bool false]) w := by kernel_rfl
theorem ta41 (w : World) : (Instr.typeAssert (.iface 137 (.agg #[])) 103 134 true).run Tryz.prog w = .ok (.tuple #[.agg #[], .bool false]) w := by kernel_rfl
theorem ta42 (w : World) : (Instr.typeAssert (.iface 137 (.agg #[])) 103 135 true).run Tryz.prog w = .ok (.tuple #[.agg #[], .bool false]) w := by kernel_rfl
theorem ta43 (w : World) : (Instr.typeAssert (.iface 137 (.agg #[])) 103 136 true).run Tryz.prog w = .ok (.tuple #[.agg #[], .bool false]) w := by kernel_rfl
theorem ta44 (w : World) : (Instr.typeAssert (.iface 137 (.agg #[])) 103 137 true).run Tryz.prog w = .ok (.tuple #[.agg #[], .bool true]) w := by kernel_rfl
set_option maxRecDepth 100000 in
set_option maxHeartbeats 2000000 in
theorem stateBehind_any (k : Nat) (c : Int) (w : World) (hk : k < 5) :
    Calls Tryz.prog 67 #[ifV k, .int .u8 c] w fun e w' => e = .returned (.tuple #[sbV k c, .bool (decide (nx k c < 5))]) ∧ w = w' := by
  have h5 : k = 0 ∨ k = 1 ∨ k = 2 ∨ k = 3 ∨ k = 4 := by omega
  rcases h5 with rfl | rfl | rfl | rfl | rfl
  ·show Calls Tryz.prog 67 #[.iface 133 (.agg #[]), .int .u8 c] w _
   have t0 := ta00
   by_cases hc : c = 111
   ·have HV : Hid (sbV 0 c = ifV 1 ∧ nx 0 c = 1) := by
     have e : nx 0 c = 1 := by simp [nx, hc]
     exact ⟨by unfold sbV; rw [e]; rfl, e⟩
    have g1 : (c == 111) = true := by simp [hc]
    clear hc
    go_enter Tryz.func67, Tryz.ntmps67
    go_wp2_with fail
    go_ret2
    exact ⟨by rw [HV.out.1, HV.out.2]; rfl, rfl⟩
   ·have HV : Hid (sbV 0 c = ifV 0 ∧ nx 0 c = 5) := by
     have e : nx 0 c = 5 := by simp [nx, hc]
     exact ⟨by unfold sbV; rw [e]; rfl, e⟩
    have g1 : (c == 111) = false := by simp [hc]
    clear hc
    go_enter Tryz.func67, Tryz.ntmps67
    go_wp2_with fail
    go_ret2
    exact ⟨by rw [HV.out.1, HV.out.2]; rfl, rfl⟩
  ·show Calls Tryz.prog 67 #[.iface 134 (.agg #[]), .int .u8 c] w _
   have t0 := ta10
   have t1 := ta11
   by_cases hc : c = 114
   ·have HV : Hid (sbV 1 c = ifV 0 ∧ nx 1 c = 0) := by
     have e : nx 1 c = 0 := by simp [nx, hc]
     exact ⟨by unfold sbV; rw [e]; rfl, e⟩
    have g1 : (c == 114) = true := by simp [hc]
    clear hc
    go_enter Tryz.func67, Tryz.ntmps67
    go_wp2_with fail
    go_ret2
    exact ⟨by rw [HV.out.1, HV.out.2]; rfl, rfl⟩
   have g0 : (c == 114) = false := by simp [hc]
   have hc0 := hc
   by_cases hc : c = 97
   ·have HV : Hid (sbV 1 c = ifV 2 ∧ nx 1 c = 2) := by
     have e : nx 1 c = 2 := by simp [nx, hc]
     exact ⟨by unfold sbV; rw [e]; rfl, e⟩
    have g1 : (c == 97) = true := by simp [hc]
    clear hc hc0
    go_enter Tryz.func67, Tryz.ntmps67
    go_wp2_with fail
    go_ret2
    exact ⟨by rw [HV.out.1, HV.out.2]; rfl, rfl⟩
   ·have HV : Hid (sbV 1 c = ifV 1 ∧ nx 1 c = 5) := by
     have e : nx 1 c = 5 := by simp [nx, hc, hc0]
     exact ⟨by unfold sbV; rw [e]; rfl, e⟩
    have g1 : (c == 97) = false := by simp [hc]
    clear hc hc0
    go_enter Tryz.func67, Tryz.ntmps67
    go_wp2_with fail
    go_ret2
    exact ⟨by rw [HV.out.1, HV.out.2]; rfl, rfl⟩
  ·show Calls Tryz.prog 67 #[.iface 135 (.agg #[]), .int .u8 c] w _
   have t0 := ta20
   have t1 := ta21
   have t2 := ta22
   by_cases hc : c = 99
   ·have HV : Hid (sbV 2 c = ifV 0 ∧ nx 2 c = 0) := by
     have e : nx 2 c = 0 := by simp [nx, hc]
     exact ⟨by unfold sbV; rw [e]; rfl, e⟩
    have g1 : (c == 99) = true := by simp [hc]
    clear hc
    go_enter Tryz.func67, Tryz.ntmps67
    go_wp2_with fail
    go_ret2
    exact ⟨by rw [HV.out.1, HV.out.2]; rfl, rfl⟩
   have g0 : (c == 99) = false := by simp [hc]
   have hc0 := hc
   by_cases hc : c = 101
   ·have HV : Hid (sbV 2 c = ifV 3 ∧ nx 2 c = 3) := by
     have e : nx 2 c = 3 := by simp [nx, hc]
     exact ⟨by unfold sbV; rw [e]; rfl, e⟩
    have g1 : (c == 101) = true := by simp [hc]
    clear hc hc0
    go_enter Tryz.func67, Tryz.ntmps67
    go_wp2_with fail
    go_ret2
    exact ⟨by rw [HV.out.1, HV.out.2]; rfl, rfl⟩
   ·have HV : Hid (sbV 2 c = ifV 2 ∧ nx 2 c = 5) := by
     have e : nx 2 c = 5 := by simp [nx, hc, hc0]
     exact ⟨by unfold sbV; rw [e]; rfl, e⟩
    have g1 : (c == 101) = false := by simp [hc]
    clear hc hc0
    go_enter Tryz.func67, Tryz.ntmps67
    go_wp2_with fail
    go_ret2
    exact ⟨by rw [HV.out.1, HV.out.2]; rfl, rfl⟩
  ·show Calls Tryz.prog 67 #[.iface 136 (.agg #[]), .int .u8 c] w _
   have t0 := ta30
   have t1 := ta31
   have t2 := ta32
   have t3 := ta33
   by_cases hc : c = 108
   ·have HV : Hid (sbV 3 c = ifV 4 ∧ nx 3 c = 4) := by
     have e : nx 3 c = 4 := by simp [nx, hc]
     exact ⟨by unfold sbV; rw [e]; rfl, e⟩
    have g1 : (c == 108) = true := by simp [hc]
    clear hc
    go_enter Tryz.func67, Tryz.ntmps67
    go_wp2_with fail
    go_ret2
    exact ⟨by rw [HV.out.1, HV.out.2]; rfl, rfl⟩
   ·have HV : Hid (sbV 3 c = ifV 3 ∧ nx 3 c = 5) := by
     have e : nx 3 c = 5 := by simp [nx, hc]
     exact ⟨by unfold sbV; rw [e]; rfl, e⟩
    have g1 : (c == 108) = false := by simp [hc]
    clear hc
    go_enter Tryz.func67, Tryz.ntmps67
    go_wp2_with fail
    go_ret2
    exact ⟨by rw [HV.out.1, HV.out.2]; rfl, rfl⟩
  ·show Calls Tryz.prog 67 #[.iface 137 (.agg #[]), .int .u8 c] w _
   have t0 := ta40
   have t1 := ta41
   have t2 := ta42
   have t3 := ta43
   have t4 := ta44
   by_cases hc : c = 102
   ·have HV : Hid (sbV 4 c = ifV 0 ∧ nx 4 c = 0) := by
     have e : nx 4 c = 0 := by simp [nx, hc]
     exact ⟨by unfold sbV; rw [e]; rfl, e⟩
    have g1 : (c == 102) = true := by simp [hc]
    clear hc
    go_enter Tryz.func67, Tryz.ntmps67
    go_wp2_with fail
    go_ret2
    exact ⟨by rw [HV.out.1, HV.out.2]; rfl, rfl⟩
   ·have HV : Hid (sbV 4 c = ifV 4 ∧ nx 4 c = 5) := by
     have e : nx 4 c = 5 := by simp [nx, hc]
     exact ⟨by unfold sbV; rw [e]; rfl, e⟩
    have g1 : (c == 102) = false := by simp [hc]
    clear hc
    go_enter Tryz.func67, Tryz.ntmps67
    go_wp2_with fail
    go_ret2
    exact ⟨by rw [HV.out.1, HV.out.2]; rfl, rfl⟩
theorem inV_at {k : Nat} (h : k < 5) : inV k = ifV k := if_pos h
theorem possible_any (n : Int) (i o : Bool) (w : World) :
    Calls Tryz.prog 172 #[.agg #[.int .i64 n, .bool i, .bool o]] w fun e w' => e = .returned (.bool (decide (stI n i o < 5))) ∧ Below w.heap.size w w' := by
  have HBB : Hid (∀ a, Below w.heap.size w (w.alloc a)) := fun a => below_all _ _
  go_enter Tryz.func172, Tryz.ntmps172
  go_wp2_with fail
  refine (instr_any n i o _).mono ?_
  rintro e w1 ⟨rfl, hb⟩
  have HB1 := Lib.hid ((HBB.out _).trans (hb.mono (by simp)))
  clear hb
  go_wp2_with fail
  go_ret
  exact ⟨rfl, HB1.out⟩
def bt (s : ByteArray) (k : Nat) : Int := if h : k < s.size then (s[k].toNat : Int) else 0
theorem bt_at {s : ByteArray} {k : Nat} (h : k < s.size) : (s[k].toNat : Int) = bt s k := by simp [bt, h]
def bsI (n : Int) (i o : Bool) (s : ByteArray) : Nat := if s.size = 1 then nx (stI n i o) (bt s 0) else 5
end Go.Proofs.YtlkdmpfifpkpaaaGreatDoor

