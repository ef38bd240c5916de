/-
  Parts of the proof of fnExecuteFinish_proved: Bk Bs Ja Jc Sb Ka Jd Je. No condition.
-/
import Derived.Test.YtlkdmpfifpkpaaaGreatDoorChecked
import Derived.WalkKit
import Derived.WalkSpells
import Derived.WalkLawsBesides
import Derived.Lib.Hide
import Derived.BigQuiet
import Derived.Deep.QuietTactic
import Derived.Deep.RegionHeld3
import Derived.Deep.DeepFit
import Derived.Deep.RegionWith
import Derived.Laws.BitsAllLaws
import Derived.Lib.Strings
import Derived.Shelf.Strings.Builder1
import Derived.Shelf.Strings.Builder2
import Derived.Shelf.Strings.OnBuilder
import Derived.Shelf.Strings.BuilderF
import Derived.Shelf.Strconv.Itoa0
import Derived.Shelf.Strconv.Itoa1
import Derived.Shelf.LaysM
import Derived.Shelf.Strconv.Itoa2
import Derived.Shelf.Strconv.Itoa3
import Derived.Shelf.Strings.Search1
import Derived.Shelf.Strings.Search2
import Derived.Shelf.Strings.Search3
import Derived.Shelf.Strings.Count
import Derived.Shelf.Strings.Shaped
import Derived.Shelf.Strings.Split
import Derived.Shelf.Strings.SplitShaped
import Derived.Shelf.Unicode.DecodeSlow
import Derived.Test.YtlkdmpfifpkpaaaGreatDoorProg
import Derived.Recover
import Derived.Defers
import Derived.Lib.Builder
import Derived.Lib.AppendStr
import Derived.Lib.UnsafeStr
import Derived.Lib.Slices
import Derived.Laws.Externs
import Derived.Test.YtlkdmpfifpkpaaaGreatDoorR01
namespace Go.Proofs.YtlkdmpfifpkpaaaGreatDoor
open Go.RowKit

/-- a block as data -/
structure Bk where
  n : Int
  i : Bool
  o : Bool
deriving DecidableEq
/-- the blocks of the five states -/
def stB : Nat → Bk
  | 0 => ⟨0, false, false⟩
  | 1 => ⟨0, false, true⟩
  | 2 => ⟨1, false, false⟩
  | 3 => ⟨2, true, false⟩
  | _ => ⟨2, false, false⟩

theorem normalState_meth (f : Nat) (w : World) : (method (f + 1) 133 (.agg #[]) "loop.example/blockboxes/impl.block").run Tryz.prog w = .ok (198, .agg #[]) w := by kernel_rfl
theorem offeredState_meth (f : Nat) (w : World) : (method (f + 1) 134 (.agg #[]) "loop.example/blockboxes/impl.block").run Tryz.prog w = .ok (199, .agg #[]) w := by kernel_rfl
theorem clearState_meth (f : Nat) (w : World) : (method (f + 1) 135 (.agg #[]) "loop.example/blockboxes/impl.block").run Tryz.prog w = .ok (200, .agg #[]) w := by kernel_rfl
theorem insideState_meth (f : Nat) (w : World) : (method (f + 1) 136 (.agg #[]) "loop.example/blockboxes/impl.block").run Tryz.prog w = .ok (201, .agg #[]) w := by kernel_rfl
theorem passedState_meth (f : Nat) (w : World) : (method (f + 1) 137 (.agg #[]) "loop.example/blockboxes/impl.block").run Tryz.prog w = .ok (202, .agg #[]) w := by kernel_rfl
theorem normalState_block (w : World) : Calls Tryz.prog 198 #[.agg #[]] w fun e w' => e = .returned (.agg #[.int .i64 0, .bool false, .bool false]) ∧ Below w.heap.size w w' := by
  go_enter Tryz.func198, Tryz.ntmps198
  go_wp2_with fail
  exact bodyPost_ret (v := .agg #[.int .i64 0, .bool false, .bool false]) (by simp [results, Tryz.results198, go_sem]) rfl ⟨rfl, ((Below.refl _ _).alloc (Nat.le_refl _) _).alloc (by simp) _⟩
theorem offeredState_block (w : World) : Calls Tryz.prog 199 #[.agg #[]] w fun e w' => e = .returned (.agg #[.int .i64 0, .bool false, .bool true]) ∧ Below w.heap.size w w' := by
  go_enter Tryz.func199, Tryz.ntmps199
  go_wp2_with fail
  exact bodyPost_ret (v := .agg #[.int .i64 0, .bool false, .bool true]) (by simp [results, Tryz.results199, go_sem]) rfl ⟨rfl, ((Below.refl _ _).alloc (Nat.le_refl _) _).alloc (by simp) _⟩
theorem clearState_block (w : World) : Calls Tryz.prog 200 #[.agg #[]] w fun e w' => e = .returned (.agg #[.int .i64 1, .bool false, .bool false]) ∧ Below w.heap.size w w' := by
  go_enter Tryz.func200, Tryz.ntmps200
  go_wp2_with fail
  exact bodyPost_ret (v := .agg #[.int .i64 1, .bool false, .bool false]) (by simp [results, Tryz.results200, go_sem]) rfl ⟨rfl, ((Below.refl _ _).alloc (Nat.le_refl _) _).alloc (by simp) _⟩
theorem insideState_block (w : World) : Calls Tryz.prog 201 #[.agg #[]] w fun e w' => e = .returned (.agg #[.int .i64 2, .bool true, .bool false]) ∧ Below w.heap.size w w' := by
  go_enter Tryz.func201, Tryz.ntmps201
  go_wp2_with fail
  exact bodyPost_ret (v := .agg #[.int .i64 2, .bool true, .bool false]) (by simp [results, Tryz.results201, go_sem]) rfl ⟨rfl, ((Below.refl _ _).alloc (Nat.le_refl _) _).alloc (by simp) _⟩
theorem passedState_block (w : World) : Calls Tryz.prog 202 #[.agg #[]] w fun e w' => e = .returned (.agg #[.int .i64 2, .bool false, .bool false]) ∧ Below w.heap.size w w' := by
  go_enter Tryz.func202, Tryz.ntmps202
  go_wp2_with fail
  exact bodyPost_ret (v := .agg #[.int .i64 2, .bool false, .bool false]) (by simp [results, Tryz.results202, go_sem]) rfl ⟨rfl, ((Below.refl _ _).alloc (Nat.le_refl _) _).alloc (by simp) _⟩

/-- the state with a number as an interface value -/
def ifV : Nat → Value
  | 0 => .iface 133 (.agg #[])
  | 1 => .iface 134 (.agg #[])
  | 2 => .iface 135 (.agg #[])
  | 3 => .iface 136 (.agg #[])
  | _ => .iface 137 (.agg #[])
def allI : Array Value := #[.iface 133 (.agg #[]), .iface 134 (.agg #[]), .iface 135 (.agg #[]), .iface 136 (.agg #[]), .iface 137 (.agg #[])]
/-- the boxes of the search -/
structure InM (w wr : World) (n : Int) (i o : Bool) : Prop where
  box : Bx wr w.heap.size 76 #[.int .i64 n, .bool i, .bool o]
  lit : Bx wr (w.heap.size + 1) 103 allI
  bl : Below w.heap.size w wr
theorem InM.below {w wr w' : World} {n : Int} {i o : Bool} {B : Nat} (h : InM w wr n i o) (hb : Below B wr w') (hB : B = wr.heap.size) : InM w w' n i o := by
  subst hB
  exact ⟨h.box.below hb h.box.lt, h.lit.below hb h.lit.lt, h.bl.trans (hb.mono h.bl.size)⟩
/-- a block is that of a state -/
def bkE (k : Nat) (n : Int) (i o : Bool) : Bool := decide ((stB k).n = n) && (decide ((stB k).i = i) && decide ((stB k).o = o))
theorem bkq0 {n : Int} {i o b : Bool} (h : bkE 0 n i o = b) (w : World) : (if 0 = n then (if i = true then Result.ok (Next.value (Value.bool false)) w else if o = true then Result.ok (Next.value (Value.bool false)) w else Result.ok (Next.value (Value.bool true)) w) else Result.ok (Next.value (Value.bool false)) w) = Result.ok (Next.value (Value.bool b)) w := by
  subst h
  cases i <;> cases o <;> by_cases h0 : (0 : Int) = n <;> simp [bkE, stB, h0]
theorem bkq1 {n : Int} {i o b : Bool} (h : bkE 1 n i o = b) (w : World) : (if 0 = n then (if i = true then Result.ok (Next.value (Value.bool false)) w else if o = false then Result.ok (Next.value (Value.bool false)) w else Result.ok (Next.value (Value.bool true)) w) else Result.ok (Next.value (Value.bool false)) w) = Result.ok (Next.value (Value.bool b)) w := by
  subst h
  cases i <;> cases o <;> by_cases h0 : (0 : Int) = n <;> simp [bkE, stB, h0]
theorem bkq2 {n : Int} {i o b : Bool} (h : bkE 2 n i o = b) (w : World) : (if 1 = n then (if i = true then Result.ok (Next.value (Value.bool false)) w else if o = true then Result.ok (Next.value (Value.bool false)) w else Result.ok (Next.value (Value.bool true)) w) else Result.ok (Next.value (Value.bool false)) w) = Result.ok (Next.value (Value.bool b)) w := by
  subst h
  cases i <;> cases o <;> by_cases h0 : (1 : Int) = n <;> simp [bkE, stB, h0]
theorem bkq3 {n : Int} {i o b : Bool} (h : bkE 3 n i o = b) (w : World) : (if 2 = n then (if i = false then Result.ok (Next.value (Value.bool false)) w else if o = true then Result.ok (Next.value (Value.bool false)) w else Result.ok (Next.value (Value.bool true)) w) else Result.ok (Next.value (Value.bool false)) w) = Result.ok (Next.value (Value.bool b)) w := by
  subst h
  cases i <;> cases o <;> by_cases h0 : (2 : Int) = n <;> simp [bkE, stB, h0]
theorem bkq4 {n : Int} {i o b : Bool} (h : bkE 4 n i o = b) (w : World) : (if 2 = n then (if i = true then Result.ok (Next.value (Value.bool false)) w else if o = true then Result.ok (Next.value (Value.bool false)) w else Result.ok (Next.value (Value.bool true)) w) else Result.ok (Next.value (Value.bool false)) w) = Result.ok (Next.value (Value.bool b)) w := by
  subst h
  cases i <;> cases o <;> by_cases h0 : (2 : Int) = n <;> simp [bkE, stB, h0]
/-- the number of a block's state; 5 where there is none -/
def stI (n : Int) (i o : Bool) : Nat := if bkE 0 n i o = true then 0 else if bkE 1 n i o = true then 1 else if bkE 2 n i o = true then 2 else if bkE 3 n i o = true then 3 else if bkE 4 n i o = true then 4 else 5
/-- what instrumentOf hands back -/
def inV (k : Nat) : Value := if k < 5 then ifV k else .nilIface
theorem stI_at {n : Int} {i o : Bool} {k : Nat} (hk : k < 5) (h : bkE k n i o = true) (hn : ∀ j, j < k → bkE j n i o = false) : stI n i o = k := by
  have h5 : k = 0 ∨ k = 1 ∨ k = 2 ∨ k = 3 ∨ k = 4 := by omega
  unfold stI
  rcases h5 with rfl | rfl | rfl | rfl | rfl
  · rw [if_pos h]
  · rw [hn 0 (by omega), if_neg (by simp), if_pos h]
  · rw [hn 0 (by omega), hn 1 (by omega), if_neg (by simp), if_neg (by simp), if_pos h]
  · rw [hn 0 (by omega), hn 1 (by omega), hn 2 (by omega), if_neg (by simp), if_neg (by simp), if_neg (by simp), if_pos h]
  · rw [hn 0 (by omega), hn 1 (by omega), hn 2 (by omega), hn 3 (by omega), if_neg (by simp), if_neg (by simp), if_neg (by simp), if_neg (by simp), if_pos h]
theorem stI_no {n : Int} {i o : Bool} (hn : ∀ j, j < 5 → bkE j n i o = false) : stI n i o = 5 := by
  unfold stI
  rw [hn 0 (by omega), hn 1 (by omega), hn 2 (by omega), hn 3 (by omega), hn 4 (by omega)]
  simp
set_option linter.unusedSimpArgs false in
set_option maxRecDepth 100000 in
set_option maxHeartbeats 4000000 in
theorem instr_any (n : Int) (i o : Bool) (w : World) :
    Calls Tryz.prog 66 #[.agg #[.int .i64 n, .bool i, .bool o]] w fun e w' => e = .returned (.tuple #[inV (stI n i o), .bool (decide (stI n i o < 5))]) ∧ Below w.heap.size w w' := by
  go_enter Tryz.func66, Tryz.ntmps66
  go_wp2_with fail
  go_loopw [20] (fun s wr => ∃ k : Nat, k ≤ 5 ∧ s = .int .i64 k ∧ Hid (∀ j, j < k → bkE j n i o = false) ∧ InM w wr n i o) (fun s _ => 5 - (intOf s).toNat)
  case atStart => exact ⟨0, by omega, rfl, Lib.hid (fun j hj => by omega), ⟨(Bx.new _ _ _).alloc _, Bx.newAt (by simp), ((Below.refl _ _).alloc (Nat.le_refl _) _).alloc (by simp) _⟩⟩
  case round =>
    obtain ⟨k, hk, rfl, HA, hm⟩ := hrel
    have HM := Lib.hid hm
    have hbx := hm.box.cell
    have hlx := hm.lit.cell
    clear hm
    have h5 : k = 0 ∨ k = 1 ∨ k = 2 ∨ k = 3 ∨ k = 4 ∨ k = 5 := by omega
    rcases h5 with rfl | rfl | rfl | rfl | rfl | rfl
    · have hl0 : wr.cell? ⟨w.heap.size + 1, 0, none⟩ = some (.iface 133 (.agg #[])) := hlx 0
      have hme := fun (f : Nat) (w : World) => normalState_meth f w
      clear hlx
      cases he : bkE 0 n i o
      · have HE := Lib.hid he
        clear he
        go_wp2_with fail
        refine wp_region_held_drew (S := (fun w' => w'.cell? ⟨w.heap.size, 0, none⟩ = some (.int .i64 n) ∧ w'.cell? ⟨w.heap.size, 1, none⟩ = some (.bool i) ∧ w'.cell? ⟨w.heap.size, 2, none⟩ = some (.bool o))) (by kernel_rfl) ?_ (fun hHeld => ?_)
        · try dsimp only
          go_keep
        refine wpAnyH_take (i := 0) (oi := ?_) (v := ?_) ?_ (by kernel_rfl) (by kernel_rfl) (by kernel_rfl) ?_ ?_ (by assumption) ?_
        rotate_left 2
        · simp only [List.getElem?_toArray, List.getElem?_cons_succ, List.getElem?_cons_zero]; rfl
        · exact fun _ _ _ h => h
        · first
            | (refine Or.inr ⟨?_, ?_⟩ <;> rfl)
            | (refine Or.inl ⟨?_, ?_⟩; · rfl
               intro w hSw; (try dsimp only at hSw); go_simp; (try with_reducible rfl); done)
        try simp only [Act.put, List.setIfInBounds_toArray, List.set_cons_zero, List.set_cons_succ]
        refine wpAnyH_take (i := 2) (oi := ?_) (v := ?_) ?_ (by kernel_rfl) (by kernel_rfl) (by kernel_rfl) ?_ ?_ (by assumption) ?_
        rotate_left 2
        · simp only [List.getElem?_toArray, List.getElem?_cons_succ, List.getElem?_cons_zero]; rfl
        · exact fun _ _ _ h => h
        · first
            | (refine Or.inr ⟨?_, ?_⟩ <;> rfl)
            | (refine Or.inl ⟨?_, ?_⟩; · rfl
               intro w hSw; (try dsimp only at hSw); go_simp; (try with_reducible rfl); done)
        try simp only [Act.put, List.setIfInBounds_toArray, List.set_cons_zero, List.set_cons_succ]
        refine wpAnyH_ready (rs := [1]) (by kernel_rfl) (by simp) ?_
        refine AllReadyH.cons (o := ?_) ?_ (fun K hK => ?_) AllReadyH.nil
        rotate_left 1
        · simp only [List.getElem?_toArray, List.getElem?_cons_succ, List.getElem?_cons_zero]; rfl
        go_simp
        go_at_call 198
        go_must (refine Calls.mono (normalState_block _) ?_)
        rintro e w2 ⟨rfl, hb⟩
        have HM2 := Lib.hid (HM.out.below ((Below.refl _ wr).drew.trans (hb.mono (by exact Nat.le_refl _))) rfl)
        have hbx2 := HM2.out.box.cell
        clear hb
        refine hK.out _ _ ?_ (fun hHeld => ?_)
        · try dsimp only
          go_keep
        clear hK K
        try simp only [Act.put, List.setIfInBounds_toArray, List.set_cons_zero, List.set_cons_succ]
        refine wpAnyH_take (i := 3) (oi := ?_) (v := ?_) ?_ (by kernel_rfl) (by kernel_rfl) (by kernel_rfl) ?_ ?_ (by assumption) ?_
        rotate_left 2
        · simp only [List.getElem?_toArray, List.getElem?_cons_succ, List.getElem?_cons_zero]; rfl
        · exact fun _ _ _ h => h
        · refine Or.inl ⟨?_, ?_⟩
          · rfl
          · intro w hSw; (try dsimp only at hSw); go_simp; exact bkq0 HE.out _
        try simp only [Act.put, List.setIfInBounds_toArray, List.set_cons_zero, List.set_cons_succ]
        refine wpAnyH_done (by kernel_rfl) ?_ _
        go_wp2_with fail
        go_roundw
        case rel => exact ⟨0 + 1, by omega, by first | rfl | go_num, Lib.hid (fun j hj => by
          by_cases e : j = 0
          · rw [e]; exact HE.out
          · exact HA.out j (by omega)), HM2.out⟩
        case measure => simp [intOf]
      · have HE := Lib.hid he
        clear he
        go_wp2_with fail
        refine wp_region_held_drew (S := (fun w' => w'.cell? ⟨w.heap.size, 0, none⟩ = some (.int .i64 n) ∧ w'.cell? ⟨w.heap.size, 1, none⟩ = some (.bool i) ∧ w'.cell? ⟨w.heap.size, 2, none⟩ = some (.bool o))) (by kernel_rfl) ?_ (fun hHeld => ?_)
        · try dsimp only
          go_keep
        refine wpAnyH_take (i := 0) (oi := ?_) (v := ?_) ?_ (by kernel_rfl) (by kernel_rfl) (by kernel_rfl) ?_ ?_ (by assumption) ?_
        rotate_left 2
        · simp only [List.getElem?_toArray, List.getElem?_cons_succ, List.getElem?_cons_zero]; rfl
        · exact fun _ _ _ h => h
        · first
            | (refine Or.inr ⟨?_, ?_⟩ <;> rfl)
            | (refine Or.inl ⟨?_, ?_⟩; · rfl
               intro w hSw; (try dsimp only at hSw); go_simp; (try with_reducible rfl); done)
        try simp only [Act.put, List.setIfInBounds_toArray, List.set_cons_zero, List.set_cons_succ]
        refine wpAnyH_take (i := 2) (oi := ?_) (v := ?_) ?_ (by kernel_rfl) (by kernel_rfl) (by kernel_rfl) ?_ ?_ (by assumption) ?_
        rotate_left 2
        · simp only [List.getElem?_toArray, List.getElem?_cons_succ, List.getElem?_cons_zero]; rfl
        · exact fun _ _ _ h => h
        · first
            | (refine Or.inr ⟨?_, ?_⟩ <;> rfl)
            | (refine Or.inl ⟨?_, ?_⟩; · rfl
               intro w hSw; (try dsimp only at hSw); go_simp; (try with_reducible rfl); done)
        try simp only [Act.put, List.setIfInBounds_toArray, List.set_cons_zero, List.set_cons_succ]
        refine wpAnyH_ready (rs := [1]) (by kernel_rfl) (by simp) ?_
        refine AllReadyH.cons (o := ?_) ?_ (fun K hK => ?_) AllReadyH.nil
        rotate_left 1
        · simp only [List.getElem?_toArray, List.getElem?_cons_succ, List.getElem?_cons_zero]; rfl
        go_simp
        go_at_call 198
        go_must (refine Calls.mono (normalState_block _) ?_)
        rintro e w2 ⟨rfl, hb⟩
        have HM2 := Lib.hid (HM.out.below ((Below.refl _ wr).drew.trans (hb.mono (by exact Nat.le_refl _))) rfl)
        have hbx2 := HM2.out.box.cell
        clear hb
        refine hK.out _ _ ?_ (fun hHeld => ?_)
        · try dsimp only
          go_keep
        clear hK K
        try simp only [Act.put, List.setIfInBounds_toArray, List.set_cons_zero, List.set_cons_succ]
        refine wpAnyH_take (i := 3) (oi := ?_) (v := ?_) ?_ (by kernel_rfl) (by kernel_rfl) (by kernel_rfl) ?_ ?_ (by assumption) ?_
        rotate_left 2
        · simp only [List.getElem?_toArray, List.getElem?_cons_succ, List.getElem?_cons_zero]; rfl
        · exact fun _ _ _ h => h
        · refine Or.inl ⟨?_, ?_⟩
          · rfl
          · intro w hSw; (try dsimp only at hSw); go_simp; exact bkq0 HE.out _
        try simp only [Act.put, List.setIfInBounds_toArray, List.set_cons_zero, List.set_cons_succ]
        refine wpAnyH_done (by kernel_rfl) ?_ _
        go_wp2_with fail
        go_ret2
        exact ⟨by rw [stI_at (by omega) HE.out HA.out]; rfl, HM2.out.bl⟩
    · have hl0 : wr.cell? ⟨w.heap.size + 1, 1, none⟩ = some (.iface 134 (.agg #[])) := hlx 1
      have hme := fun (f : Nat) (w : World) => offeredState_meth f w
      clear hlx
      cases he : bkE 1 n i o
      · have HE := Lib.hid he
        clear he
        go_wp2_with fail
        refine wp_region_held_drew (S := (fun w' => w'.cell? ⟨w.heap.size, 0, none⟩ = some (.int .i64 n) ∧ w'.cell? ⟨w.heap.size, 1, none⟩ = some (.bool i) ∧ w'.cell? ⟨w.heap.size, 2, none⟩ = some (.bool o))) (by kernel_rfl) ?_ (fun hHeld => ?_)
        · try dsimp only
          go_keep
        refine wpAnyH_take (i := 0) (oi := ?_) (v := ?_) ?_ (by kernel_rfl) (by kernel_rfl) (by kernel_rfl) ?_ ?_ (by assumption) ?_
        rotate_left 2
        · simp only [List.getElem?_toArray, List.getElem?_cons_succ, List.getElem?_cons_zero]; rfl
        · exact fun _ _ _ h => h
        · first
            | (refine Or.inr ⟨?_, ?_⟩ <;> rfl)
            | (refine Or.inl ⟨?_, ?_⟩; · rfl
               intro w hSw; (try dsimp only at hSw); go_simp; (try with_reducible rfl); done)
        try simp only [Act.put, List.setIfInBounds_toArray, List.set_cons_zero, List.set_cons_succ]
        refine wpAnyH_take (i := 2) (oi := ?_) (v := ?_) ?_ (by kernel_rfl) (by kernel_rfl) (by kernel_rfl) ?_ ?_ (by assumption) ?_
        rotate_left 2
        · simp only [List.getElem?_toArray, List.getElem?_cons_succ, List.getElem?_cons_zero]; rfl
        · exact fun _ _ _ h => h
        · first
            | (refine Or.inr ⟨?_, ?_⟩ <;> rfl)
            | (refine Or.inl ⟨?_, ?_⟩; · rfl
               intro w hSw; (try dsimp only at hSw); go_simp; (try with_reducible rfl); done)
        try simp only [Act.put, List.setIfInBounds_toArray, List.set_cons_zero, List.set_cons_succ]
        refine wpAnyH_ready (rs := [1]) (by kernel_rfl) (by simp) ?_
        refine AllReadyH.cons (o := ?_) ?_ (fun K hK => ?_) AllReadyH.nil
        rotate_left 1
        · simp only [List.getElem?_toArray, List.getElem?_cons_succ, List.getElem?_cons_zero]; rfl
        go_simp
        go_at_call 199
        go_must (refine Calls.mono (offeredState_block _) ?_)
        rintro e w2 ⟨rfl, hb⟩
        have HM2 := Lib.hid (HM.out.below ((Below.refl _ wr).drew.trans (hb.mono (by exact Nat.le_refl _))) rfl)
        have hbx2 := HM2.out.box.cell
        clear hb
        refine hK.out _ _ ?_ (fun hHeld => ?_)
        · try dsimp only
          go_keep
        clear hK K
        try simp only [Act.put, List.setIfInBounds_toArray, List.set_cons_zero, List.set_cons_succ]
        refine wpAnyH_take (i := 3) (oi := ?_) (v := ?_) ?_ (by kernel_rfl) (by kernel_rfl) (by kernel_rfl) ?_ ?_ (by assumption) ?_
        rotate_left 2
        · simp only [List.getElem?_toArray, List.getElem?_cons_succ, List.getElem?_cons_zero]; rfl
        · exact fun _ _ _ h => h
        · refine Or.inl ⟨?_, ?_⟩
          · rfl
          · intro w hSw; (try dsimp only at hSw); go_simp; exact bkq1 HE.out _
        try simp only [Act.put, List.setIfInBounds_toArray, List.set_cons_zero, List.set_cons_succ]
        refine wpAnyH_done (by kernel_rfl) ?_ _
        go_wp2_with fail
        go_roundw
        case rel => exact ⟨1 + 1, by omega, by first | rfl | go_num, Lib.hid (fun j hj => by
          by_cases e : j = 1
          · rw [e]; exact HE.out
          · exact HA.out j (by omega)), HM2.out⟩
        case measure => simp [intOf]
      · have HE := Lib.hid he
        clear he
        go_wp2_with fail
        refine wp_region_held_drew (S := (fun w' => w'.cell? ⟨w.heap.size, 0, none⟩ = some (.int .i64 n) ∧ w'.cell? ⟨w.heap.size, 1, none⟩ = some (.bool i) ∧ w'.cell? ⟨w.heap.size, 2, none⟩ = some (.bool o))) (by kernel_rfl) ?_ (fun hHeld => ?_)
        · try dsimp only
          go_keep
        refine wpAnyH_take (i := 0) (oi := ?_) (v := ?_) ?_ (by kernel_rfl) (by kernel_rfl) (by kernel_rfl) ?_ ?_ (by assumption) ?_
        rotate_left 2
        · simp only [List.getElem?_toArray, List.getElem?_cons_succ, List.getElem?_cons_zero]; rfl
        · exact fun _ _ _ h => h
        · first
            | (refine Or.inr ⟨?_, ?_⟩ <;> rfl)
            | (refine Or.inl ⟨?_, ?_⟩; · rfl
               intro w hSw; (try dsimp only at hSw); go_simp; (try with_reducible rfl); done)
        try simp only [Act.put, List.setIfInBounds_toArray, List.set_cons_zero, List.set_cons_succ]
        refine wpAnyH_take (i := 2) (oi := ?_) (v := ?_) ?_ (by kernel_rfl) (by kernel_rfl) (by kernel_rfl) ?_ ?_ (by assumption) ?_
        rotate_left 2
        · simp only [List.getElem?_toArray, List.getElem?_cons_succ, List.getElem?_cons_zero]; rfl
        · exact fun _ _ _ h => h
        · first
            | (refine Or.inr ⟨?_, ?_⟩ <;> rfl)
            | (refine Or.inl ⟨?_, ?_⟩; · rfl
               intro w hSw; (try dsimp only at hSw); go_simp; (try with_reducible rfl); done)
        try simp only [Act.put, List.setIfInBounds_toArray, List.set_cons_zero, List.set_cons_succ]
        refine wpAnyH_ready (rs := [1]) (by kernel_rfl) (by simp) ?_
        refine AllReadyH.cons (o := ?_) ?_ (fun K hK => ?_) AllReadyH.nil
        rotate_left 1
        · simp only [List.getElem?_toArray, List.getElem?_cons_succ, List.getElem?_cons_zero]; rfl
        go_simp
        go_at_call 199
        go_must (refine Calls.mono (offeredState_block _) ?_)
        rintro e w2 ⟨rfl, hb⟩
        have HM2 := Lib.hid (HM.out.below ((Below.refl _ wr).drew.trans (hb.mono (by exact Nat.le_refl _))) rfl)
        have hbx2 := HM2.out.box.cell
        clear hb
        refine hK.out _ _ ?_ (fun hHeld => ?_)
        · try dsimp only
          go_keep
        clear hK K
        try simp only [Act.put, List.setIfInBounds_toArray, List.set_cons_zero, List.set_cons_succ]
        refine wpAnyH_take (i := 3) (oi := ?_) (v := ?_) ?_ (by kernel_rfl) (by kernel_rfl) (by kernel_rfl) ?_ ?_ (by assumption) ?_
        rotate_left 2
        · simp only [List.getElem?_toArray, List.getElem?_cons_succ, List.getElem?_cons_zero]; rfl
        · exact fun _ _ _ h => h
        · refine Or.inl ⟨?_, ?_⟩
          · rfl
          · intro w hSw; (try dsimp only at hSw); go_simp; exact bkq1 HE.out _
        try simp only [Act.put, List.setIfInBounds_toArray, List.set_cons_zero, List.set_cons_succ]
        refine wpAnyH_done (by kernel_rfl) ?_ _
        go_wp2_with fail
        go_ret2
        exact ⟨by rw [stI_at (by omega) HE.out HA.out]; rfl, HM2.out.bl⟩
    · have hl0 : wr.cell? ⟨w.heap.size + 1, 2, none⟩ = some (.iface 135 (.agg #[])) := hlx 2
      have hme := fun (f : Nat) (w : World) => clearState_meth f w
      clear hlx
      cases he : bkE 2 n i o
      · have HE := Lib.hid he
        clear he
        go_wp2_with fail
        refine wp_region_held_drew (S := (fun w' => w'.cell? ⟨w.heap.size, 0, none⟩ = some (.int .i64 n) ∧ w'.cell? ⟨w.heap.size, 1, none⟩ = some (.bool i) ∧ w'.cell? ⟨w.heap.size, 2, none⟩ = some (.bool o))) (by kernel_rfl) ?_ (fun hHeld => ?_)
        · try dsimp only
          go_keep
        refine wpAnyH_take (i := 0) (oi := ?_) (v := ?_) ?_ (by kernel_rfl) (by kernel_rfl) (by kernel_rfl) ?_ ?_ (by assumption) ?_
        rotate_left 2
        · simp only [List.getElem?_toArray, List.getElem?_cons_succ, List.getElem?_cons_zero]; rfl
        · exact fun _ _ _ h => h
        · first
            | (refine Or.inr ⟨?_, ?_⟩ <;> rfl)
            | (refine Or.inl ⟨?_, ?_⟩; · rfl
               intro w hSw; (try dsimp only at hSw); go_simp; (try with_reducible rfl); done)
        try simp only [Act.put, List.setIfInBounds_toArray, List.set_cons_zero, List.set_cons_succ]
        refine wpAnyH_take (i := 2) (oi := ?_) (v := ?_) ?_ (by kernel_rfl) (by kernel_rfl) (by kernel_rfl) ?_ ?_ (by assumption) ?_
        rotate_left 2
        · simp only [List.getElem?_toArray, List.getElem?_cons_succ, List.getElem?_cons_zero]; rfl
        · exact fun _ _ _ h => h
        · first
            | (refine Or.inr ⟨?_, ?_⟩ <;> rfl)
            | (refine Or.inl ⟨?_, ?_⟩; · rfl
               intro w hSw; (try dsimp only at hSw); go_simp; (try with_reducible rfl); done)
        try simp only [Act.put, List.setIfInBounds_toArray, List.set_cons_zero, List.set_cons_succ]
        refine wpAnyH_ready (rs := [1]) (by kernel_rfl) (by simp) ?_
        refine AllReadyH.cons (o := ?_) ?_ (fun K hK => ?_) AllReadyH.nil
        rotate_left 1
        · simp only [List.getElem?_toArray, List.getElem?_cons_succ, List.getElem?_cons_zero]; rfl
        go_simp
        go_at_call 200
        go_must (refine Calls.mono (clearState_block _) ?_)
        rintro e w2 ⟨rfl, hb⟩
        have HM2 := Lib.hid (HM.out.below ((Below.refl _ wr).drew.trans (hb.mono (by exact Nat.le_refl _))) rfl)
        have hbx2 := HM2.out.box.cell
        clear hb
        refine hK.out _ _ ?_ (fun hHeld => ?_)
        · try dsimp only
          go_keep
        clear hK K
        try simp only [Act.put, List.setIfInBounds_toArray, List.set_cons_zero, List.set_cons_succ]
        refine wpAnyH_take (i := 3) (oi := ?_) (v := ?_) ?_ (by kernel_rfl) (by kernel_rfl) (by kernel_rfl) ?_ ?_ (by assumption) ?_
        rotate_left 2
        · simp only [List.getElem?_toArray, List.getElem?_cons_succ, List.getElem?_cons_zero]; rfl
        · exact fun _ _ _ h => h
        · refine Or.inl ⟨?_, ?_⟩
          · rfl
          · intro w hSw; (try dsimp only at hSw); go_simp; exact bkq2 HE.out _
        try simp only [Act.put, List.setIfInBounds_toArray, List.set_cons_zero, List.set_cons_succ]
        refine wpAnyH_done (by kernel_rfl) ?_ _
        go_wp2_with fail
        go_roundw
        case rel => exact ⟨2 + 1, by omega, by first | rfl | go_num, Lib.hid (fun j hj => by
          by_cases e : j = 2
          · rw [e]; exact HE.out
          · exact HA.out j (by omega)), HM2.out⟩
        case measure => simp [intOf]
      · have HE := Lib.hid he
        clear he
        go_wp2_with fail
        refine wp_region_held_drew (S := (fun w' => w'.cell? ⟨w.heap.size, 0, none⟩ = some (.int .i64 n) ∧ w'.cell? ⟨w.heap.size, 1, none⟩ = some (.bool i) ∧ w'.cell? ⟨w.heap.size, 2, none⟩ = some (.bool o))) (by kernel_rfl) ?_ (fun hHeld => ?_)
        · try dsimp only
          go_keep
        refine wpAnyH_take (i := 0) (oi := ?_) (v := ?_) ?_ (by kernel_rfl) (by kernel_rfl) (by kernel_rfl) ?_ ?_ (by assumption) ?_
        rotate_left 2
        · simp only [List.getElem?_toArray, List.getElem?_cons_succ, List.getElem?_cons_zero]; rfl
        · exact fun _ _ _ h => h
        · first
            | (refine Or.inr ⟨?_, ?_⟩ <;> rfl)
            | (refine Or.inl ⟨?_, ?_⟩; · rfl
               intro w hSw; (try dsimp only at hSw); go_simp; (try with_reducible rfl); done)
        try simp only [Act.put, List.setIfInBounds_toArray, List.set_cons_zero, List.set_cons_succ]
        refine wpAnyH_take (i := 2) (oi := ?_) (v := ?_) ?_ (by kernel_rfl) (by kernel_rfl) (by kernel_rfl) ?_ ?_ (by assumption) ?_
        rotate_left 2
        · simp only [List.getElem?_toArray, List.getElem?_cons_succ, List.getElem?_cons_zero]; rfl
        · exact fun _ _ _ h => h
        · first
            | (refine Or.inr ⟨?_, ?_⟩ <;> rfl)
            | (refine Or.inl ⟨?_, ?_⟩; · rfl
               intro w hSw; (try dsimp only at hSw); go_simp; (try with_reducible rfl); done)
        try simp only [Act.put, List.setIfInBounds_toArray, List.set_cons_zero, List.set_cons_succ]
        refine wpAnyH_ready (rs := [1]) (by kernel_rfl) (by simp) ?_
        refine AllReadyH.cons (o := ?_) ?_ (fun K hK => ?_) AllReadyH.nil
        rotate_left 1
        · simp only [List.getElem?_toArray, List.getElem?_cons_succ, List.getElem?_cons_zero]; rfl
        go_simp
        go_at_call 200
        go_must (refine Calls.mono (clearState_block _) ?_)
        rintro e w2 ⟨rfl, hb⟩
        have HM2 := Lib.hid (HM.out.below ((Below.refl _ wr).drew.trans (hb.mono (by exact Nat.le_refl _))) rfl)
        have hbx2 := HM2.out.box.cell
        clear hb
        refine hK.out _ _ ?_ (fun hHeld => ?_)
        · try dsimp only
          go_keep
        clear hK K
        try simp only [Act.put, List.setIfInBounds_toArray, List.set_cons_zero, List.set_cons_succ]
        refine wpAnyH_take (i := 3) (oi := ?_) (v := ?_) ?_ (by kernel_rfl) (by kernel_rfl) (by kernel_rfl) ?_ ?_ (by assumption) ?_
        rotate_left 2
        · simp only [List.getElem?_toArray, List.getElem?_cons_succ, List.getElem?_cons_zero]; rfl
        · exact fun _ _ _ h => h
        · refine Or.inl ⟨?_, ?_⟩
          · rfl
          · intro w hSw; (try dsimp only at hSw); go_simp; exact bkq2 HE.out _
        try simp only [Act.put, List.setIfInBounds_toArray, List.set_cons_zero, List.set_cons_succ]
        refine wpAnyH_done (by kernel_rfl) ?_ _
        go_wp2_with fail
        go_ret2
        exact ⟨by rw [stI_at (by omega) HE.out HA.out]; rfl, HM2.out.bl⟩
    · have hl0 : wr.cell? ⟨w.heap.size + 1, 3, none⟩ = some (.iface 136 (.agg #[])) := hlx 3
      have hme := fun (f : Nat) (w : World) => insideState_meth f w
      clear hlx
      cases he : bkE 3 n i o
      · have HE := Lib.hid he
        clear he
        go_wp2_with fail
        refine wp_region_held_drew (S := (fun w' => w'.cell? ⟨w.heap.size, 0, none⟩ = some (.int .i64 n) ∧ w'.cell? ⟨w.heap.size, 1, none⟩ = some (.bool i) ∧ w'.cell? ⟨w.heap.size, 2, none⟩ = some (.bool o))) (by kernel_rfl) ?_ (fun hHeld => ?_)
        · try dsimp only
          go_keep
        refine wpAnyH_take (i := 0) (oi := ?_) (v := ?_) ?_ (by kernel_rfl) (by kernel_rfl) (by kernel_rfl) ?_ ?_ (by assumption) ?_
        rotate_left 2
        · simp only [List.getElem?_toArray, List.getElem?_cons_succ, List.getElem?_cons_zero]; rfl
        · exact fun _ _ _ h => h
        · first
            | (refine Or.inr ⟨?_, ?_⟩ <;> rfl)
            | (refine Or.inl ⟨?_, ?_⟩; · rfl
               intro w hSw; (try dsimp only at hSw); go_simp; (try with_reducible rfl); done)
        try simp only [Act.put, List.setIfInBounds_toArray, List.set_cons_zero, List.set_cons_succ]
        refine wpAnyH_take (i := 2) (oi := ?_) (v := ?_) ?_ (by kernel_rfl) (by kernel_rfl) (by kernel_rfl) ?_ ?_ (by assumption) ?_
        rotate_left 2
        · simp only [List.getElem?_toArray, List.getElem?_cons_succ, List.getElem?_cons_zero]; rfl
        · exact fun _ _ _ h => h
        · first
            | (refine Or.inr ⟨?_, ?_⟩ <;> rfl)
            | (refine Or.inl ⟨?_, ?_⟩; · rfl
               intro w hSw; (try dsimp only at hSw); go_simp; (try with_reducible rfl); done)
        try simp only [Act.put, List.setIfInBounds_toArray, List.set_cons_zero, List.set_cons_succ]
        refine wpAnyH_ready (rs := [1]) (by kernel_rfl) (by simp) ?_
        refine AllReadyH.cons (o := ?_) ?_ (fun K hK => ?_) AllReadyH.nil
        rotate_left 1
        · simp only [List.getElem?_toArray, List.getElem?_cons_succ, List.getElem?_cons_zero]; rfl
        go_simp
        go_at_call 201
        go_must (refine Calls.mono (insideState_block _) ?_)
        rintro e w2 ⟨rfl, hb⟩
        have HM2 := Lib.hid (HM.out.below ((Below.refl _ wr).drew.trans (hb.mono (by exact Nat.le_refl _))) rfl)
        have hbx2 := HM2.out.box.cell
        clear hb
        refine hK.out _ _ ?_ (fun hHeld => ?_)
        · try dsimp only
          go_keep
        clear hK K
        try simp only [Act.put, List.setIfInBounds_toArray, List.set_cons_zero, List.set_cons_succ]
        refine wpAnyH_take (i := 3) (oi := ?_) (v := ?_) ?_ (by kernel_rfl) (by kernel_rfl) (by kernel_rfl) ?_ ?_ (by assumption) ?_
        rotate_left 2
        · simp only [List.getElem?_toArray, List.getElem?_cons_succ, List.getElem?_cons_zero]; rfl
        · exact fun _ _ _ h => h
        · refine Or.inl ⟨?_, ?_⟩
          · rfl
          · intro w hSw; (try dsimp only at hSw); go_simp; exact bkq3 HE.out _
        try simp only [Act.put, List.setIfInBounds_toArray, List.set_cons_zero, List.set_cons_succ]
        refine wpAnyH_done (by kernel_rfl) ?_ _
        go_wp2_with fail
        go_roundw
        case rel => exact ⟨3 + 1, by omega, by first | rfl | go_num, Lib.hid (fun j hj => by
          by_cases e : j = 3
          · rw [e]; exact HE.out
          · exact HA.out j (by omega)), HM2.out⟩
        case measure => simp [intOf]
      · have HE := Lib.hid he
        clear he
        go_wp2_with fail
        refine wp_region_held_drew (S := (fun w' => w'.cell? ⟨w.heap.size, 0, none⟩ = some (.int .i64 n) ∧ w'.cell? ⟨w.heap.size, 1, none⟩ = some (.bool i) ∧ w'.cell? ⟨w.heap.size, 2, none⟩ = some (.bool o))) (by kernel_rfl) ?_ (fun hHeld => ?_)
        · try dsimp only
          go_keep
        refine wpAnyH_take (i := 0) (oi := ?_) (v := ?_) ?_ (by kernel_rfl) (by kernel_rfl) (by kernel_rfl) ?_ ?_ (by assumption) ?_
        rotate_left 2
        · simp only [List.getElem?_toArray, List.getElem?_cons_succ, List.getElem?_cons_zero]; rfl
        · exact fun _ _ _ h => h
        · first
            | (refine Or.inr ⟨?_, ?_⟩ <;> rfl)
            | (refine Or.inl ⟨?_, ?_⟩; · rfl
               intro w hSw; (try dsimp only at hSw); go_simp; (try with_reducible rfl); done)
        try simp only [Act.put, List.setIfInBounds_toArray, List.set_cons_zero, List.set_cons_succ]
        refine wpAnyH_take (i := 2) (oi := ?_) (v := ?_) ?_ (by kernel_rfl) (by kernel_rfl) (by kernel_rfl) ?_ ?_ (by assumption) ?_
        rotate_left 2
        · simp only [List.getElem?_toArray, List.getElem?_cons_succ, List.getElem?_cons_zero]; rfl
        · exact fun _ _ _ h => h
        · first
            | (refine Or.inr ⟨?_, ?_⟩ <;> rfl)
            | (refine Or.inl ⟨?_, ?_⟩; · rfl
               intro w hSw; (try dsimp only at hSw); go_simp; (try with_reducible rfl); done)
        try simp only [Act.put, List.setIfInBounds_toArray, List.set_cons_zero, List.set_cons_succ]
        refine wpAnyH_ready (rs := [1]) (by kernel_rfl) (by simp) ?_
        refine AllReadyH.cons (o := ?_) ?_ (fun K hK => ?_) AllReadyH.nil
        rotate_left 1
        · simp only [List.getElem?_toArray, List.getElem?_cons_succ, List.getElem?_cons_zero]; rfl
        go_simp
        go_at_call 201
        go_must (refine Calls.mono (insideState_block _) ?_)
        rintro e w2 ⟨rfl, hb⟩
        have HM2 := Lib.hid (HM.out.below ((Below.refl _ wr).drew.trans (hb.mono (by exact Nat.le_refl _))) rfl)
        have hbx2 := HM2.out.box.cell
        clear hb
        refine hK.out _ _ ?_ (fun hHeld => ?_)
        · try dsimp only
          go_keep
        clear hK K
        try simp only [Act.put, List.setIfInBounds_toArray, List.set_cons_zero, List.set_cons_succ]
        refine wpAnyH_take (i := 3) (oi := ?_) (v := ?_) ?_ (by kernel_rfl) (by kernel_rfl) (by kernel_rfl) ?_ ?_ (by assumption) ?_
        rotate_left 2
        · simp only [List.getElem?_toArray, List.getElem?_cons_succ, List.getElem?_cons_zero]; rfl
        · exact fun _ _ _ h => h
        · refine Or.inl ⟨?_, ?_⟩
          · rfl
          · intro w hSw; (try dsimp only at hSw); go_simp; exact bkq3 HE.out _
        try simp only [Act.put, List.setIfInBounds_toArray, List.set_cons_zero, List.set_cons_succ]
        refine wpAnyH_done (by kernel_rfl) ?_ _
        go_wp2_with fail
        go_ret2
        exact ⟨by rw [stI_at (by omega) HE.out HA.out]; rfl, HM2.out.bl⟩
    · have hl0 : wr.cell? ⟨w.heap.size + 1, 4, none⟩ = some (.iface 137 (.agg #[])) := hlx 4
      have hme := fun (f : Nat) (w : World) => passedState_meth f w
      clear hlx
      cases he : bkE 4 n i o
      · have HE := Lib.hid he
        clear he
        go_wp2_with fail
        refine wp_region_held_drew (S := (fun w' => w'.cell? ⟨w.heap.size, 0, none⟩ = some (.int .i64 n) ∧ w'.cell? ⟨w.heap.size, 1, none⟩ = some (.bool i) ∧ w'.cell? ⟨w.heap.size, 2, none⟩ = some (.bool o))) (by kernel_rfl) ?_ (fun hHeld => ?_)
        · try dsimp only
          go_keep
        refine wpAnyH_take (i := 0) (oi := ?_) (v := ?_) ?_ (by kernel_rfl) (by kernel_rfl) (by kernel_rfl) ?_ ?_ (by assumption) ?_
        rotate_left 2
        · simp only [List.getElem?_toArray, List.getElem?_cons_succ, List.getElem?_cons_zero]; rfl
        · exact fun _ _ _ h => h
        · first
            | (refine Or.inr ⟨?_, ?_⟩ <;> rfl)
            | (refine Or.inl ⟨?_, ?_⟩; · rfl
               intro w hSw; (try dsimp only at hSw); go_simp; (try with_reducible rfl); done)
        try simp only [Act.put, List.setIfInBounds_toArray, List.set_cons_zero, List.set_cons_succ]
        refine wpAnyH_take (i := 2) (oi := ?_) (v := ?_) ?_ (by kernel_rfl) (by kernel_rfl) (by kernel_rfl) ?_ ?_ (by assumption) ?_
        rotate_left 2
        · simp only [List.getElem?_toArray, List.getElem?_cons_succ, List.getElem?_cons_zero]; rfl
        · exact fun _ _ _ h => h
        · first
            | (refine Or.inr ⟨?_, ?_⟩ <;> rfl)
            | (refine Or.inl ⟨?_, ?_⟩; · rfl
               intro w hSw; (try dsimp only at hSw); go_simp; (try with_reducible rfl); done)
        try simp only [Act.put, List.setIfInBounds_toArray, List.set_cons_zero, List.set_cons_succ]
        refine wpAnyH_ready (rs := [1]) (by kernel_rfl) (by simp) ?_
        refine AllReadyH.cons (o := ?_) ?_ (fun K hK => ?_) AllReadyH.nil
        rotate_left 1
        · simp only [List.getElem?_toArray, List.getElem?_cons_succ, List.getElem?_cons_zero]; rfl
        go_simp
        go_at_call 202
        go_must (refine Calls.mono (passedState_block _) ?_)
        rintro e w2 ⟨rfl, hb⟩
        have HM2 := Lib.hid (HM.out.below ((Below.refl _ wr).drew.trans (hb.mono (by exact Nat.le_refl _))) rfl)
        have hbx2 := HM2.out.box.cell
        clear hb
        refine hK.out _ _ ?_ (fun hHeld => ?_)
        · try dsimp only
          go_keep
        clear hK K
        try simp only [Act.put, List.setIfInBounds_toArray, List.set_cons_zero, List.set_cons_succ]
        refine wpAnyH_take (i := 3) (oi := ?_) (v := ?_) ?_ (by kernel_rfl) (by kernel_rfl) (by kernel_rfl) ?_ ?_ (by assumption) ?_
        rotate_left 2
        · simp only [List.getElem?_toArray, List.getElem?_cons_succ, List.getElem?_cons_zero]; rfl
        · exact fun _ _ _ h => h
        · refine Or.inl ⟨?_, ?_⟩
          · rfl
          · intro w hSw; (try dsimp only at hSw); go_simp; exact bkq4 HE.out _
        try simp only [Act.put, List.setIfInBounds_toArray, List.set_cons_zero, List.set_cons_succ]
        refine wpAnyH_done (by kernel_rfl) ?_ _
        go_wp2_with fail
        go_roundw
        case rel => exact ⟨4 + 1, by omega, by first | rfl | go_num, Lib.hid (fun j hj => by
          by_cases e : j = 4
          · rw [e]; exact HE.out
          · exact HA.out j (by omega)), HM2.out⟩
        case measure => simp [intOf]
      · have HE := Lib.hid he
        clear he
        go_wp2_with fail
        refine wp_region_held_drew (S := (fun w' => w'.cell? ⟨w.heap.size, 0, none⟩ = some (.int .i64 n) ∧ w'.cell? ⟨w.heap.size, 1, none⟩ = some (.bool i) ∧ w'.cell? ⟨w.heap.size, 2, none⟩ = some (.bool o))) (by kernel_rfl) ?_ (fun hHeld => ?_)
        · try dsimp only
          go_keep
        refine wpAnyH_take (i := 0) (oi := ?_) (v := ?_) ?_ (by kernel_rfl) (by kernel_rfl) (by kernel_rfl) ?_ ?_ (by assumption) ?_
        rotate_left 2
        · simp only [List.getElem?_toArray, List.getElem?_cons_succ, List.getElem?_cons_zero]; rfl
        · exact fun _ _ _ h => h
        · first
            | (refine Or.inr ⟨?_, ?_⟩ <;> rfl)
            | (refine Or.inl ⟨?_, ?_⟩; · rfl
               intro w hSw; (try dsimp only at hSw); go_simp; (try with_reducible rfl); done)
        try simp only [Act.put, List.setIfInBounds_toArray, List.set_cons_zero, List.set_cons_succ]
        refine wpAnyH_take (i := 2) (oi := ?_) (v := ?_) ?_ (by kernel_rfl) (by kernel_rfl) (by kernel_rfl) ?_ ?_ (by assumption) ?_
        rotate_left 2
        · simp only [List.getElem?_toArray, List.getElem?_cons_succ, List.getElem?_cons_zero]; rfl
        · exact fun _ _ _ h => h
        · first
            | (refine Or.inr ⟨?_, ?_⟩ <;> rfl)
            | (refine Or.inl ⟨?_, ?_⟩; · rfl
               intro w hSw; (try dsimp only at hSw); go_simp; (try with_reducible rfl); done)
        try simp only [Act.put, List.setIfInBounds_toArray, List.set_cons_zero, List.set_cons_succ]
        refine wpAnyH_ready (rs := [1]) (by kernel_rfl) (by simp) ?_
        refine AllReadyH.cons (o := ?_) ?_ (fun K hK => ?_) AllReadyH.nil
        rotate_left 1
        · simp only [List.getElem?_toArray, List.getElem?_cons_succ, List.getElem?_cons_zero]; rfl
        go_simp
        go_at_call 202
        go_must (refine Calls.mono (passedState_block _) ?_)
        rintro e w2 ⟨rfl, hb⟩
        have HM2 := Lib.hid (HM.out.below ((Below.refl _ wr).drew.trans (hb.mono (by exact Nat.le_refl _))) rfl)
        have hbx2 := HM2.out.box.cell
        clear hb
        refine hK.out _ _ ?_ (fun hHeld => ?_)
        · try dsimp only
          go_keep
        clear hK K
        try simp only [Act.put, List.setIfInBounds_toArray, List.set_cons_zero, List.set_cons_succ]
        refine wpAnyH_take (i := 3) (oi := ?_) (v := ?_) ?_ (by kernel_rfl) (by kernel_rfl) (by kernel_rfl) ?_ ?_ (by assumption) ?_
        rotate_left 2
        · simp only [List.getElem?_toArray, List.getElem?_cons_succ, List.getElem?_cons_zero]; rfl
        · exact fun _ _ _ h => h
        · refine Or.inl ⟨?_, ?_⟩
          · rfl
          · intro w hSw; (try dsimp only at hSw); go_simp; exact bkq4 HE.out _
        try simp only [Act.put, List.setIfInBounds_toArray, List.set_cons_zero, List.set_cons_succ]
        refine wpAnyH_done (by kernel_rfl) ?_ _
        go_wp2_with fail
        go_ret2
        exact ⟨by rw [stI_at (by omega) HE.out HA.out]; rfl, HM2.out.bl⟩
    · have HN := Lib.hid (stI_no HA.out)
      go_wp2_with fail
      go_ret2
      exact ⟨by rw [HN.out]; rfl, HM.out.bl⟩
end Go.Proofs.YtlkdmpfifpkpaaaGreatDoor
namespace Go.Proofs.YtlkdmpfifpkpaaaGreatDoor
open Go.RowKit

/-- the state behind a letter; 5 where it cannot be -/
def nx (k : Nat) (c : Int) : Nat :=
  match k with
  | 0 => if c = 111 then 1 else 5
  | 1 => if c = 114 then 0 else if c = 97 then 2 else 5
  | 2 => if c = 99 then 0 else if c = 101 then 3 else 5
  | 3 => if c = 108 then 4 else 5
  | 4 => if c = 102 then 0 else 5
  | _ => 5
theorem nx_le : ∀ (k : Nat) (c : Int), nx k c ≤ 5
  | 0, c => by simp only [nx]; split <;> omega
  | 1, c => by simp only [nx]; split <;> (try split) <;> omega
  | 2, c => by simp only [nx]; split <;> (try split) <;> omega
  | 3, c => by simp only [nx]; split <;> omega
  | 4, c => by simp only [nx]; split <;> omega
  | k + 5, c => by simp [nx]
def sbV (k : Nat) (c : Int) : Value := if nx k c < 5 then ifV (nx k c) else ifV k
theorem ta00 (w : World) : (Instr.typeAssert (.iface 133 (.agg #[])) 103 133 true).run Tryz.prog w = .ok (.tuple #[.agg #[], .bool true]) w := by kernel_rfl
theorem ta10 (w : World) : (Instr.typeAssert (.iface 134 (.agg #[])) 103 133 true).run Tryz.prog w = .ok (.tuple #[.agg #[], .bool false]) w := by kernel_rfl
theorem ta11 (w : World) : (Instr.typeAssert (.iface 134 (.agg #[])) 103 134 true).run Tryz.prog w = .ok (.tuple #[.agg #[], .bool true]) w := by kernel_rfl
theorem ta20 (w : World) : (Instr.typeAssert (.iface 135 (.agg #[])) 103 133 true).run Tryz.prog w = .ok (.tuple #[.agg #[], .bool false]) w := by kernel_rfl
theorem ta21 (w : World) : (Instr.typeAssert (.iface 135 (.agg #[])) 103 134 true).run Tryz.prog w = .ok (.tuple #[.agg #[], .bool false]) w := by kernel_rfl
theorem ta22 (w : World) : (Instr.typeAssert (.iface 135 (.agg #[])) 103 135 true).run Tryz.prog w = .ok (.tuple #[.agg #[], .bool true]) w := by kernel_rfl
theorem ta30 (w : World) : (Instr.typeAssert (.iface 136 (.agg #[])) 103 133 true).run Tryz.prog w = .ok (.tuple #[.agg #[], .bool false]) w := by kernel_rfl
theorem ta31 (w : World) : (Instr.typeAssert (.iface 136 (.agg #[])) 103 134 true).run Tryz.prog w = .ok (.tuple #[.agg #[], .bool false]) w := by kernel_rfl
theorem ta32 (w : World) : (Instr.typeAssert (.iface 136 (.agg #[])) 103 135 true).run Tryz.prog w = .ok (.tuple #[.agg #[], .bool false]) w := by kernel_rfl
theorem ta33 (w : World) : (Instr.typeAssert (.iface 136 (.agg #[])) 103 136 true).run Tryz.prog w = .ok (.tuple #[.agg #[], .bool true]) w := by kernel_rfl
theorem ta40 (w : World) : (Instr.typeAssert (.iface 137 (.agg #[])) 103 133 true).run Tryz.prog w = .ok (.tuple #[.agg #[], .bool false]) w := by kernel_rfl
theorem ta41 (w : World) : (Instr.typeAssert (.iface 137 (.agg #[])) 103 134 true).run Tryz.prog w = .ok (.tuple #[.agg #[], .bool false]) w := by kernel_rfl
theorem ta42 (w : World) : (Instr.typeAssert (.iface 137 (.agg #[])) 103 135 true).run Tryz.prog w = .ok (.tuple #[.agg #[], .bool false]) w := by kernel_rfl
theorem ta43 (w : World) : (Instr.typeAssert (.iface 137 (.agg #[])) 103 136 true).run Tryz.prog w = .ok (.tuple #[.agg #[], .bool false]) w := by kernel_rfl
theorem ta44 (w : World) : (Instr.typeAssert (.iface 137 (.agg #[])) 103 137 true).run Tryz.prog w = .ok (.tuple #[.agg #[], .bool true]) w := by kernel_rfl
set_option maxRecDepth 100000 in
set_option maxHeartbeats 2000000 in
theorem stateBehind_any (k : Nat) (c : Int) (w : World) (hk : k < 5) :
    Calls Tryz.prog 67 #[ifV k, .int .u8 c] w fun e w' => e = .returned (.tuple #[sbV k c, .bool (decide (nx k c < 5))]) ∧ w = w' := by
  have h5 : k = 0 ∨ k = 1 ∨ k = 2 ∨ k = 3 ∨ k = 4 := by omega
  rcases h5 with rfl | rfl | rfl | rfl | rfl
  · show Calls Tryz.prog 67 #[.iface 133 (.agg #[]), .int .u8 c] w _
    have t0 := ta00
    by_cases hc : c = 111
    · have HV : Hid (sbV 0 c = ifV 1 ∧ nx 0 c = 1) := by
        have e : nx 0 c = 1 := by simp [nx, hc]
        exact ⟨by unfold sbV; rw [e]; rfl, e⟩
      have g1 : (c == 111) = true := by simp [hc]
      clear hc
      go_enter Tryz.func67, Tryz.ntmps67
      go_wp2_with fail
      go_ret2
      exact ⟨by rw [HV.out.1, HV.out.2]; rfl, rfl⟩
    · have HV : Hid (sbV 0 c = ifV 0 ∧ nx 0 c = 5) := by
        have e : nx 0 c = 5 := by simp [nx, hc]
        exact ⟨by unfold sbV; rw [e]; rfl, e⟩
      have g1 : (c == 111) = false := by simp [hc]
      clear hc
      go_enter Tryz.func67, Tryz.ntmps67
      go_wp2_with fail
      go_ret2
      exact ⟨by rw [HV.out.1, HV.out.2]; rfl, rfl⟩
  · show Calls Tryz.prog 67 #[.iface 134 (.agg #[]), .int .u8 c] w _
    have t0 := ta10
    have t1 := ta11
    by_cases hc : c = 114
    · have HV : Hid (sbV 1 c = ifV 0 ∧ nx 1 c = 0) := by
        have e : nx 1 c = 0 := by simp [nx, hc]
        exact ⟨by unfold sbV; rw [e]; rfl, e⟩
      have g1 : (c == 114) = true := by simp [hc]
      clear hc
      go_enter Tryz.func67, Tryz.ntmps67
      go_wp2_with fail
      go_ret2
      exact ⟨by rw [HV.out.1, HV.out.2]; rfl, rfl⟩
    have g0 : (c == 114) = false := by simp [hc]
    have hc0 := hc
    by_cases hc : c = 97
    · have HV : Hid (sbV 1 c = ifV 2 ∧ nx 1 c = 2) := by
        have e : nx 1 c = 2 := by simp [nx, hc]
        exact ⟨by unfold sbV; rw [e]; rfl, e⟩
      have g1 : (c == 97) = true := by simp [hc]
      clear hc hc0
      go_enter Tryz.func67, Tryz.ntmps67
      go_wp2_with fail
      go_ret2
      exact ⟨by rw [HV.out.1, HV.out.2]; rfl, rfl⟩
    · have HV : Hid (sbV 1 c = ifV 1 ∧ nx 1 c = 5) := by
        have e : nx 1 c = 5 := by simp [nx, hc, hc0]
        exact ⟨by unfold sbV; rw [e]; rfl, e⟩
      have g1 : (c == 97) = false := by simp [hc]
      clear hc hc0
      go_enter Tryz.func67, Tryz.ntmps67
      go_wp2_with fail
      go_ret2
      exact ⟨by rw [HV.out.1, HV.out.2]; rfl, rfl⟩
  · show Calls Tryz.prog 67 #[.iface 135 (.agg #[]), .int .u8 c] w _
    have t0 := ta20
    have t1 := ta21
    have t2 := ta22
    by_cases hc : c = 99
    · have HV : Hid (sbV 2 c = ifV 0 ∧ nx 2 c = 0) := by
        have e : nx 2 c = 0 := by simp [nx, hc]
        exact ⟨by unfold sbV; rw [e]; rfl, e⟩
      have g1 : (c == 99) = true := by simp [hc]
      clear hc
      go_enter Tryz.func67, Tryz.ntmps67
      go_wp2_with fail
      go_ret2
      exact ⟨by rw [HV.out.1, HV.out.2]; rfl, rfl⟩
    have g0 : (c == 99) = false := by simp [hc]
    have hc0 := hc
    by_cases hc : c = 101
    · have HV : Hid (sbV 2 c = ifV 3 ∧ nx 2 c = 3) := by
        have e : nx 2 c = 3 := by simp [nx, hc]
        exact ⟨by unfold sbV; rw [e]; rfl, e⟩
      have g1 : (c == 101) = true := by simp [hc]
      clear hc hc0
      go_enter Tryz.func67, Tryz.ntmps67
      go_wp2_with fail
      go_ret2
      exact ⟨by rw [HV.out.1, HV.out.2]; rfl, rfl⟩
    · have HV : Hid (sbV 2 c = ifV 2 ∧ nx 2 c = 5) := by
        have e : nx 2 c = 5 := by simp [nx, hc, hc0]
        exact ⟨by unfold sbV; rw [e]; rfl, e⟩
      have g1 : (c == 101) = false := by simp [hc]
      clear hc hc0
      go_enter Tryz.func67, Tryz.ntmps67
      go_wp2_with fail
      go_ret2
      exact ⟨by rw [HV.out.1, HV.out.2]; rfl, rfl⟩
  · show Calls Tryz.prog 67 #[.iface 136 (.agg #[]), .int .u8 c] w _
    have t0 := ta30
    have t1 := ta31
    have t2 := ta32
    have t3 := ta33
    by_cases hc : c = 108
    · have HV : Hid (sbV 3 c = ifV 4 ∧ nx 3 c = 4) := by
        have e : nx 3 c = 4 := by simp [nx, hc]
        exact ⟨by unfold sbV; rw [e]; rfl, e⟩
      have g1 : (c == 108) = true := by simp [hc]
      clear hc
      go_enter Tryz.func67, Tryz.ntmps67
      go_wp2_with fail
      go_ret2
      exact ⟨by rw [HV.out.1, HV.out.2]; rfl, rfl⟩
    · have HV : Hid (sbV 3 c = ifV 3 ∧ nx 3 c = 5) := by
        have e : nx 3 c = 5 := by simp [nx, hc]
        exact ⟨by unfold sbV; rw [e]; rfl, e⟩
      have g1 : (c == 108) = false := by simp [hc]
      clear hc
      go_enter Tryz.func67, Tryz.ntmps67
      go_wp2_with fail
      go_ret2
      exact ⟨by rw [HV.out.1, HV.out.2]; rfl, rfl⟩
  · show Calls Tryz.prog 67 #[.iface 137 (.agg #[]), .int .u8 c] w _
    have t0 := ta40
    have t1 := ta41
    have t2 := ta42
    have t3 := ta43
    have t4 := ta44
    by_cases hc : c = 102
    · have HV : Hid (sbV 4 c = ifV 0 ∧ nx 4 c = 0) := by
        have e : nx 4 c = 0 := by simp [nx, hc]
        exact ⟨by unfold sbV; rw [e]; rfl, e⟩
      have g1 : (c == 102) = true := by simp [hc]
      clear hc
      go_enter Tryz.func67, Tryz.ntmps67
      go_wp2_with fail
      go_ret2
      exact ⟨by rw [HV.out.1, HV.out.2]; rfl, rfl⟩
    · have HV : Hid (sbV 4 c = ifV 4 ∧ nx 4 c = 5) := by
        have e : nx 4 c = 5 := by simp [nx, hc]
        exact ⟨by unfold sbV; rw [e]; rfl, e⟩
      have g1 : (c == 102) = false := by simp [hc]
      clear hc
      go_enter Tryz.func67, Tryz.ntmps67
      go_wp2_with fail
      go_ret2
      exact ⟨by rw [HV.out.1, HV.out.2]; rfl, rfl⟩
theorem inV_at {k : Nat} (h : k < 5) : inV k = ifV k := if_pos h
theorem possible_any (n : Int) (i o : Bool) (w : World) :
    Calls Tryz.prog 172 #[.agg #[.int .i64 n, .bool i, .bool o]] w fun e w' => e = .returned (.bool (decide (stI n i o < 5))) ∧ Below w.heap.size w w' := by
  have HBB : Hid (∀ a, Below w.heap.size w (w.alloc a)) := fun a => below_all _ _
  go_enter Tryz.func172, Tryz.ntmps172
  go_wp2_with fail
  refine (instr_any n i o _).mono ?_
  rintro e w1 ⟨rfl, hb⟩
  have HB1 := Lib.hid ((HBB.out _).trans (hb.mono (by simp)))
  clear hb
  go_wp2_with fail
  go_ret
  exact ⟨rfl, HB1.out⟩
/-- the byte at a place -/
def bt (s : ByteArray) (k : Nat) : Int := if h : k < s.size then (s[k].toNat : Int) else 0
theorem bt_at {s : ByteArray} {k : Nat} (h : k < s.size) : (s[k].toNat : Int) = bt s k := by simp [bt, h]
/-- the state behind a block and a text of one letter; 5 where there is none -/
def bsI (n : Int) (i o : Bool) (s : ByteArray) : Nat := if s.size = 1 then nx (stI n i o) (bt s 0) else 5
end Go.Proofs.YtlkdmpfifpkpaaaGreatDoor
namespace Go.Proofs.YtlkdmpfifpkpaaaGreatDoor
open Go.RowKit

/-- the value of digits -/
def dgV (l : List UInt8) : Int := l.foldl (fun a c => 10 * a + ((c.toNat : Int) - 48)) 0
def dgB (c : UInt8) : Bool := decide (48 ≤ c.toNat) && decide (c.toNat ≤ 57)
/-- the number that a word is -/
def nmL (l : List UInt8) : Int := if 1 ≤ l.length ∧ l.length ≤ 4 ∧ l.all dgB = true then dgV l else 9999
def nmF (t : ByteArray) : Int := nmL t.data.toList
theorem dgV_snoc (l : List UInt8) (c : UInt8) : dgV (l ++ [c]) = 10 * dgV l + ((c.toNat : Int) - 48) := by
  unfold dgV
  rw [List.foldl_append]
  rfl
theorem dgB_true {c : UInt8} : dgB c = true ↔ 48 ≤ c.toNat ∧ c.toNat ≤ 57 := by unfold dgB; rw [Bool.and_eq_true, decide_eq_true_eq, decide_eq_true_eq]
theorem dgV_bd : ∀ (n : Nat) (l : List UInt8), l.length ≤ n → l.all dgB = true → 0 ≤ dgV l ∧ dgV l < 10 ^ n := by
  intro n
  induction n with
  | zero =>
    intro l h _
    obtain rfl : l = [] := List.length_eq_zero_iff.1 (by omega)
    decide
  | succ n ih =>
    intro l h hd
    rcases List.eq_nil_or_concat l with rfl | ⟨l', c, rfl⟩
    · have : (0 : Int) < 10 ^ (n + 1) := Int.pow_pos (by omega)
      exact ⟨Int.le_refl _, this⟩
    · rw [List.concat_eq_append] at h hd ⊢
      rw [List.all_append, Bool.and_eq_true] at hd
      have h1 := ih l' (by simp at h; omega) hd.1
      have h2 : dgB c = true := by simpa using hd.2
      have h3 := dgB_true.1 h2
      rw [dgV_snoc, Int.pow_succ]
      omega
theorem nmF_bd (t : ByteArray) : 0 ≤ nmF t ∧ nmF t ≤ 9999 := by
  unfold nmF nmL
  split
  · rename_i h
    have := dgV_bd 4 _ h.2.1 h.2.2
    omega
  · omega
theorem all_take {l : List UInt8} {k : Nat} (hk : k < l.length) : (l.take (k + 1)).all dgB = ((l.take k).all dgB && dgB l[k]) := by
  rw [List.take_succ_eq_append_getElem hk, List.all_append]
  simp
theorem all_stop {l : List UInt8} {k : Nat} (hk : k < l.length) (h : dgB l[k] = false) : l.all dgB = false := by
  cases e : l.all dgB
  · rfl
  · have := List.all_eq_true.1 e _ (List.getElem_mem hk)
    rw [h] at this
    cases this
set_option linter.unusedSimpArgs false in
set_option maxRecDepth 100000 in
set_option maxHeartbeats 2000000 in
theorem numberOf_any (t : ByteArray) (w : World) :
    Calls Tryz.prog 120 #[.string t] w fun e w' => e = .returned (.int .i64 (nmF t)) ∧ w = w' := by
  have HSZ : Hid (t.data.toList.length = t.size) := by show _ = _; simp
  go_enter Tryz.func120, Tryz.ntmps120
  by_cases h0 : t.size = 0
  · have HV : Hid (nmF t = 9999) := if_neg (fun h => by have := HSZ.out; omega)
    have hb : ((t.size : Int) == 0) = true := beq_iff_eq.2 (by omega)
    clear h0
    go_wp2_with fail
    go_ret
    exact ⟨by rw [HV.out]; rfl, rfl⟩
  have hb : ((t.size : Int) == 0) = false := beq_eq_false_iff_ne.2 (by omega)
  by_cases h4 : 4 < t.size
  · have HV : Hid (nmF t = 9999) := if_neg (fun h => by have := HSZ.out; omega)
    have h4i : (4 : Int) < (t.size : Int) := by omega
    clear h0
    go_wp2_with fail
    go_ret
    exact ⟨by rw [HV.out]; rfl, rfl⟩
  have h4i : ¬ (4 : Int) < (t.size : Int) := by omega
  go_wp2_with fail
  go_loopw [3, 4, 15] (fun n _ i wr => ∃ k : Nat, k ≤ t.size ∧ i = .int .i64 k ∧ n = .int .i64 (dgV (t.data.toList.take k)) ∧ w = wr ∧ Hid ((t.data.toList.take k).all dgB = true)) (fun _ _ i _ => t.size - (intOf i).toNat)
  case atStart => exact ⟨0, Nat.zero_le _, rfl, rfl, rfl, rfl⟩
  case round =>
    obtain ⟨k, hk, rfl, rfl, rfl, HA⟩ := hrel
    by_cases hlt : k < t.size
    · have hbt := bt_at hlt
      have hbl : bt t k = ((t.data.toList[k]'(by simpa using hlt)).toNat : Int) := by
        unfold bt
        rw [dif_pos hlt]
        rfl
      have HNX : Hid ((t.data.toList.take (k + 1)).all dgB = dgB (t.data.toList[k]'(by simpa using hlt))) := by show _ = _; rw [all_take (by simpa using hlt), HA.out, Bool.true_and]
      have HVX : Hid (dgV (t.data.toList.take (k + 1)) = 10 * dgV (t.data.toList.take k) + (bt t k - 48)) := by
        show _ = _
        rw [List.take_succ_eq_append_getElem (by simpa using hlt), dgV_snoc, hbl]
      have HST : Hid (dgB (t.data.toList[k]'(by simpa using hlt)) = false → nmF t = 9999) := fun h => if_neg (fun q => by rw [all_stop (by simpa using hlt) h] at q; cases q.2.2)
      have HDB : Hid (dgB (t.data.toList[k]'(by simpa using hlt)) = true ↔ 48 ≤ bt t k ∧ bt t k ≤ 57) := by
        show _ ↔ _
        rw [dgB_true, hbl]
        omega
      have hbd := dgV_bd 4 (t.data.toList.take k) (by simp; omega) HA.out
      have hki : (k : Int) < (t.size : Int) := by omega
      have hb0 : 0 ≤ bt t k ∧ bt t k < 256 := by
        have := (t.data.toList[k]'(by simpa using hlt)).toNat_lt
        omega
      clear hbl
      generalize dgB (t.data.toList[k]'(by simpa using hlt)) = d at *
      generalize bt t k = c at *
      generalize dgV (t.data.toList.take k) = n at *
      by_cases hc1 : c < 48
      · have HV : Hid (nmF t = 9999) := HST.out (by
          cases d
          · rfl
          · have := HDB.out.1 rfl; omega)
        go_wp2_with fail
        go_ret
        exact ⟨by rw [HV.out]; rfl, rfl⟩
      by_cases hc2 : 57 < c
      · have HV : Hid (nmF t = 9999) := HST.out (by
          cases d
          · rfl
          · have := HDB.out.1 rfl; omega)
        go_wp2_with fail
        go_ret
        exact ⟨by rw [HV.out]; rfl, rfl⟩
      have HA2 : Hid ((t.data.toList.take (k + 1)).all dgB = true) := by show _ = _; rw [HNX.out]; exact HDB.out.2 (by omega)
      have hw1 : IntKind.u8.wrap (c - 48) = c - 48 := IntWalk.u8_in _ (by omega)
      have hw2 : IntKind.i64.wrap (10 * n) = 10 * n := IntWalk.i64_in _ (by omega)
      have hw3 : IntKind.i64.wrap (c - 48) = c - 48 := IntWalk.i64_in _ (by omega)
      have hw4 : IntKind.i64.wrap (10 * n + (c - 48)) = 10 * n + (c - 48) := IntWalk.i64_in _ (by omega)
      go_wp2_with fail
      go_roundw
      case rel => exact ⟨k + 1, by omega, by go_num, by rw [HVX.out], by first | exact rfl | exact trivial, HA2.out⟩
      case measure => simp [intOf]; omega
    · obtain rfl : k = t.size := by omega
      have HV : Hid (nmF t = dgV (t.data.toList.take t.size)) := by
        show _ = _
        have e : t.data.toList.take t.size = t.data.toList := List.take_of_length_le (by simp)
        have ha := HA.out
        rw [e] at ha ⊢
        exact if_pos ⟨by have := HSZ.out; omega, by have := HSZ.out; omega, ha⟩
      go_wp2_with fail
      go_ret
      exact ⟨by rw [HV.out]; rfl, rfl⟩
end Go.Proofs.YtlkdmpfifpkpaaaGreatDoor
namespace Go.Proofs.YtlkdmpfifpkpaaaGreatDoor
open Go.RowKit

set_option maxRecDepth 100000 in
set_option maxHeartbeats 1000000 in
set_option linter.unusedSimpArgs false in
theorem catch_idle (b : Nat) (w : World) :
    CallsD Tryz.prog 56 #[.pointer (some ⟨b, 0, none⟩)] .returning w fun e u' w' => e = .returned (.tuple #[]) ∧ u' = .returning ∧ w' = w := by
  refine callsD_of_wpS Tryz.func56 rfl fun c₀ cs hu => ?_
  apply wpS_seq
  apply wpS_region
  simp [wpOpsS, go_sem, recoverD, hu, Tryz.ntmps56, Exit.thenS]
  refine wpS_of_wp ?_
  go_wp2_with fail
  cases c₀
  simp_all [bodyPostS, results, Tryz.results56]
end Go.Proofs.YtlkdmpfifpkpaaaGreatDoor
namespace Go.Proofs.YtlkdmpfifpkpaaaGreatDoor
open Go.RowKit

/-- a builder in block b that holds the cells bs -/
abbrev Sb (B b : Nat) (bs : List Value) (w : World) : Prop := Lib.IsBuilder 59 5 B b bs w
/-- .. that has been written to -/
abbrev SbU (B b : Nat) (bs : List Value) (w : World) : Prop := Lib.BuilderAt 59 5 B b (.pointer (some ⟨b, 0, none⟩)) bs w
set_option maxRecDepth 100000 in
set_option maxHeartbeats 1000000 in
theorem copyCheck_any (B b : Nat) (bs : List Value) (w : World) (h : Sb B b bs w) :
    Calls Tryz.prog 55 #[.pointer (some ⟨b, 0, none⟩)] w fun e w' => e = .returned (.tuple #[]) ∧ SbU B b bs w' ∧ Below B w w' := by
  have hs1 : (Tryz.prog.info? 59).map (·.size) = some 2 := by kernel_rfl
  obtain ⟨j, hj, hjs⟩ := Option.map_eq_some_iff.1 hs1
  have hJ := Lib.hid hj
  have hJS := Lib.hid hjs
  have hlies : liesAt Tryz.prog Tryz.prog.depth 59 (2 / Tryz.prog.cellsOf 59) 0 59 1 = true := by kernel_rfl
  have HL := Lib.hid hlies
  clear hs1 hj hjs hlies
  rcases h with h | h
  · have HB := Lib.hid h
    have hc := h.cell0
    have hf := h.frozen0
    have HSH := Lib.hid h.shape
    clear h
    go_enter Tryz.func55, Tryz.ntmps55
    go_wp2_with fail
    rw [Lib.run_to_unsafe (P := Tryz.prog) (w := w) ⟨b, 0, none⟩ Tryz.underlying57 Tryz.underlying112 hJ.out (by rw [hJS.out]; decide) HSH.out (Nat.zero_lt_succ 1)]
    simp only [Result.andThen]
    rw [Oper.upon_value]
    go_wp2_with fail
    rw [run_callFunc_extern Tryz.func73 (by kernel_rfl) (by kernel_rfl) (by kernel_rfl) (e := Extern.AbiNoEscape.same) (by kernel_rfl)]
    rw [Lib.run_noEscape]
    simp only [Result.andThen]
    rw [Oper.upon_value]
    go_wp2_with fail
    rw [Lib.run_from_unsafe (P := Tryz.prog) (w := w) ⟨b, 0, none⟩ Tryz.underlying112 Tryz.underlying57 hJ.out HSH.out HL.out]
    simp only [Result.andThen]
    rw [Oper.upon_value]
    go_wp2_with fail
    go_end0
    exact ⟨rfl, HB.out.used _, (Below.refl B w).setCell (p := ⟨b, 0, none⟩) HB.out.1 _⟩
  · have HB := Lib.hid h
    have hc := h.cell0
    clear h
    go_enter Tryz.func55, Tryz.ntmps55
    go_wp2_with fail
    rw [Lib.run_neq_ptr_same (P := Tryz.prog) (w := w) _ Tryz.underlying57 hJ.out]
    go_wp2_with fail
    go_end0
    exact ⟨rfl, HB.out, Below.refl B _⟩
set_option maxRecDepth 100000 in
set_option maxHeartbeats 2000000 in
theorem writeByte_any (B b : Nat) (bs : List Value) (c : Int) (w : World) (h : Sb B b bs w) (hlen : bs.length + 1 ≤ 140737488355328) (hBw : B ≤ w.heap.size) :
    Calls Tryz.prog 173 #[.pointer (some ⟨b, 0, none⟩), .int .u8 c] w fun e w' => e = .returned .nilIface ∧ SbU B b (bs ++ [.int .u8 c]) w' ∧ Below B w w' := by
  have HH := Lib.hid h
  clear h
  obtain ⟨i0, hi, hz0, hz1, hz2⟩ := info_parts (P := Tryz.prog) (e := 5) (z := .int .u8 0) (size := 1) (bytes := 1) (by kernel_rfl)
  have HI := Lib.hid hi
  clear hi
  go_enter Tryz.func173, Tryz.ntmps173
  go_wp2_with (go_at_call 55; go_must (refine (copyCheck_any B b bs _ HH.out).mono ?_))
  rintro e w1 ⟨rfl, h1, hb1⟩
  obtain ⟨hB, v, hbk, hown, hne⟩ := h1
  have c0 : w1.cell? ⟨b, 0, none⟩ = some (.pointer (some ⟨b, 0, none⟩)) := by rw [Lib.cell_of_heap hbk]; rfl
  have c1 : w1.cell? ⟨b, 1, none⟩ = some v := by rw [Lib.cell_of_heap hbk]; rfl
  have HBK := Lib.hid hbk
  clear hbk
  go_wp2_with (at_builtin; refine wpList_append_own _ rfl _ _ 22 rfl B 5 i0 (.int .u8 0) 1 1 Tryz.underlying22 HI.out hz0 hz1 hz2 rfl (by decide) _ _ _ rfl (hown.alloc _) ⟨w1.heap.size, 0, none⟩ 1 1 [.int .u8 c] rfl rfl ?c1 ?c2 ?c3 ?c4 ?c5 ?_)
  case c1 =>
    intro j u hj
    match j, hj with
    | 0, hj => simp at hj; subst hj; simp [Addr.add]
  case c2 => intro u hu; simp at hu; subst hu; rfl
  case c3 => unfold maxLen; omega
  case c4 => omega
  case c5 => have := hb1.size; simp; omega
  intro v' w2 hown' hgrow _
  have hbk := HBK.out
  have hlt : b < w1.heap.size := by
    rcases Nat.lt_or_ge b w1.heap.size with h' | h'
    · exact h'
    · simp [Array.getElem?_eq_none h'] at hbk
  have hb2 : w2.heap[b]? = some (.cells #[.pointer (some ⟨b, 0, none⟩), v] 59 (0, 0)) := by
    rw [hgrow.block b (by simp; omega) (fun e => hne e.symm), Lib.alloc_old w1 _ b hlt]
    exact hbk
  have d0 : w2.cell? ⟨b, 0, none⟩ = some (.pointer (some ⟨b, 0, none⟩)) := by rw [Lib.cell_of_heap hb2]; rfl
  have d1 : w2.cell? ⟨b, 1, none⟩ = some v := by rw [Lib.cell_of_heap hb2]; rfl
  have f1 : w2.frozen? ⟨b, 1, none⟩ = false := Lib.frozen_of_heap hb2 1
  obtain ⟨g, cap, rfl⟩ : ∃ g cap, v' = .slice (some ⟨g, 0, none⟩) (bs.length + 1) cap := by
    rcases hown'.2 with ⟨_, h0⟩ | ⟨g, cap, cur, hv, _⟩
    · omega
    · exact ⟨g, cap, hv⟩
  have HB2 := Lib.hid hb2
  clear hb2 hbk
  go_wp2_with fail
  go_ret
  refine ⟨rfl, ?_, ?_⟩
  · exact Lib.BuilderAt.put (T := 59) (e := 5) hB HB2.out (bs' := bs ++ [.int .u8 c]) (by simpa using hown') (by decide)
  · exact ((hb1.alloc (by have := hb1.size; omega) _).grown hgrow (by have := hb1.size; simp; omega) (fun k hk => (hown.lt k hk).1)).setCell (p := ⟨b, 1, none⟩) hB _
set_option maxHeartbeats 1000000 in
set_option maxRecDepth 100000 in
theorem string (B b : Nat) (l : List UInt8) (w : World) (h : Lib.IsBuilder 59 5 B b (Lib.byteCells l) w) (h0 : l ≠ []) :
    Calls Tryz.prog 39 #[.pointer (some ⟨b, 0, none⟩)] w fun e w' => e = .returned (.string ⟨l.toArray⟩) ∧ Below B w w' := by
  obtain ⟨p, hB, v, hbk, hown, hne⟩ : ∃ p, Lib.BuilderAt 59 5 B b p (Lib.byteCells l) w := by
    rcases h with h | h
    · exact ⟨_, h⟩
    · exact ⟨_, h⟩
  have hl0 : l.length ≠ 0 := by simpa using h0
  rw [Lib.byteCells_length] at hown
  obtain ⟨g, cap, cur, rfl, hbg, hg, hnc, hcm, hcs, htake⟩ : ∃ g cap cur, v = .slice (some ⟨g, 0, none⟩) l.length cap ∧ B ≤ g ∧ w.heap[g]? = some (.cells cur 5 (0, 0)) ∧ l.length ≤ cap ∧ cap ≤ maxLen ∧ cur.size = cap * 1 ∧ cur.toList.take (l.length * 1) = Lib.byteCells l := by
    rcases hown.2 with ⟨_, hz⟩ | ⟨g, cap, cur, hv, r⟩
    · exact absurd hz hl0
    · exact ⟨g, cap, cur, hv, r⟩
  have c1 : w.drew.cell? ⟨b, 1, none⟩ = some (.slice (some ⟨g, 0, none⟩) l.length cap) := by
    have : w.drew.heap[b]? = some (.cells #[p, .slice (some ⟨g, 0, none⟩) l.length cap] 59 (0, 0)) := hbk
    rw [Lib.cell_of_heap this]; rfl
  have hSD : (Builtin.unsafeSliceData_ #[22] 89 #[.slice (some ⟨g, 0, none⟩) l.length cap]).run Tryz.prog w.drew = .ok (.pointer (some ⟨g, 0, none⟩)) w.drew :=
    Lib.run_unsafeSliceData_row _ _ _ _ _ _ (by omega)
  have hUS : (Builtin.unsafeString_ #[89, 3] 9 #[.pointer (some ⟨g, 0, none⟩), .int .i64 l.length]).run Tryz.prog w.drew = .ok (.string ⟨l.toArray⟩) (w.drew.freeze ⟨g, 0, none⟩ l.length) := by
    refine Lib.run_unsafeString_row w.drew 89 3 9 5 Tryz.underlying89 (by kernel_rfl) g cur.size (by have hg' : w.drew.heap[g]? = some (.cells cur 5 (0, 0)) := hg; simp [World.shape?, hg']) l h0 (by omega) (by unfold maxLen at hcm; omega) ?_
    intro j x hx
    have := hown.cells (g := g) rfl j (.int .u8 x.toNat) (by simp [Lib.byteCells, hx])
    exact this
  go_enter Tryz.func39, Tryz.ntmps39
  go_wp2_with fail
  go_region
  all_goals (go_wp2_with fail; go_ret; exact ⟨rfl, Lib.below_freeze (Below.drew (Below.refl B w)) (p := ⟨g, 0, none⟩) hbg _⟩)


theorem unsafeString_none (W : World) (q : Option Addr) : (Builtin.unsafeString_ #[89, 3] 9 #[.pointer q, .int .i64 0]).run Tryz.prog W = .ok (.string .empty) W :=
  Lib.run_unsafeString_none W _ _ _ q

set_option maxHeartbeats 2000000 in
set_option maxRecDepth 100000 in
theorem string_nil (B b : Nat) (p : Value) (w : World) (hbk : w.heap[b]? = some (.cells #[p, .slice none 0 0] 59 (0, 0))) :
    Calls Tryz.prog 39 #[.pointer (some ⟨b, 0, none⟩)] w fun e w' => e = .returned (.string ⟨#[]⟩) ∧ Below B w w' := by
  have hUS := unsafeString_none
  have c1 : w.drew.cell? ⟨b, 1, none⟩ = some (.slice none 0 0) := by
    have : w.drew.heap[b]? = some (.cells #[p, .slice none 0 0] 59 (0, 0)) := hbk
    rw [Lib.cell_of_heap this]; rfl
  have hSD : (Builtin.unsafeSliceData_ #[22] 89 #[.slice none 0 0]).run Tryz.prog w.drew = .ok (.pointer none) w.drew := rfl
  go_enter Tryz.func39, Tryz.ntmps39
  go_wp2_with fail
  go_region
  all_goals (go_wp2_with fail; go_ret; exact ⟨rfl, Below.drew (Below.refl B w)⟩)

set_option maxHeartbeats 2000000 in
set_option maxRecDepth 100000 in
theorem string_noroom (B b g : Nat) (p : Value) (cur : Array Value) (w : World) (hBw : B ≤ w.heap.size) (hbk : w.heap[b]? = some (.cells #[p, .slice (some ⟨g, 0, none⟩) 0 0] 59 (0, 0))) (hg : w.heap[g]? = some (.cells cur 5 (0, 0))) :
    Calls Tryz.prog 39 #[.pointer (some ⟨b, 0, none⟩)] w fun e w' => e = .returned (.string ⟨#[]⟩) ∧ Below B w w' := by
  have hUS := unsafeString_none
  have hlt : b < w.heap.size := by
    rcases Nat.lt_or_ge b w.heap.size with h' | h'
    · exact h'
    · simp [Array.getElem?_eq_none h'] at hbk
  have c1 : w.drew.cell? ⟨b, 1, none⟩ = some (.slice (some ⟨g, 0, none⟩) 0 0) := by
    have : w.drew.heap[b]? = some (.cells #[p, .slice (some ⟨g, 0, none⟩) 0 0] 59 (0, 0)) := hbk
    rw [Lib.cell_of_heap this]; rfl
  have hSD : (Builtin.unsafeSliceData_ #[22] 89 #[.slice (some ⟨g, 0, none⟩) 0 0]).run Tryz.prog w.drew = .ok (.pointer (some ⟨w.drew.heap.size, 0, none⟩)) (w.drew.alloc (.view ⟨g, 0, none⟩ 5)) :=
    Lib.run_unsafeSliceData_zero w.drew _ _ 5 Tryz.underlying89 ⟨g, 0, none⟩ 0 (5, cur.size) (by have hg' : w.drew.heap[g]? = some (.cells cur 5 (0, 0)) := hg; simp [World.shape?, hg'])
  have c2 : (w.drew.alloc (.view ⟨g, 0, none⟩ 5)).cell? ⟨b, 1, none⟩ = some (.slice (some ⟨g, 0, none⟩) 0 0) := by
    have : (w.drew.alloc (.view ⟨g, 0, none⟩ 5)).heap[b]? = _ := (Lib.alloc_old w.drew _ b hlt).trans hbk
    rw [Lib.cell_of_heap this]; rfl
  -- (the same fact as the how-to's newer walk spells the world; and of w itself, to which the elder walk comes down)
  have c3 : (w.alloc (.view ⟨g, 0, none⟩ 5)).drew.cell? ⟨b, 1, none⟩ = some (.slice (some ⟨g, 0, none⟩) 0 0) := c2
  have c0 : w.cell? ⟨b, 1, none⟩ = some (.slice (some ⟨g, 0, none⟩) 0 0) := c1
  go_enter Tryz.func39, Tryz.ntmps39
  go_wp2_with fail
  go_region
  all_goals (go_wp2_with fail; go_ret; exact ⟨rfl, (Below.drew (Below.refl B w)).alloc hBw _⟩)

set_option maxHeartbeats 2000000 in
set_option maxRecDepth 100000 in
theorem string_room (B b g cap : Nat) (p : Value) (w : World) (hc0 : cap ≠ 0) (hbk : w.heap[b]? = some (.cells #[p, .slice (some ⟨g, 0, none⟩) 0 cap] 59 (0, 0))) :
    Calls Tryz.prog 39 #[.pointer (some ⟨b, 0, none⟩)] w fun e w' => e = .returned (.string ⟨#[]⟩) ∧ Below B w w' := by
  have hUS := unsafeString_none
  have c1 : w.drew.cell? ⟨b, 1, none⟩ = some (.slice (some ⟨g, 0, none⟩) 0 cap) := by
    have : w.drew.heap[b]? = some (.cells #[p, .slice (some ⟨g, 0, none⟩) 0 cap] 59 (0, 0)) := hbk
    rw [Lib.cell_of_heap this]; rfl
  have hSD : (Builtin.unsafeSliceData_ #[22] 89 #[.slice (some ⟨g, 0, none⟩) 0 cap]).run Tryz.prog w.drew = .ok (.pointer (some ⟨g, 0, none⟩)) w.drew :=
    Lib.run_unsafeSliceData_row _ _ _ _ _ _ hc0
  clear hc0
  go_enter Tryz.func39, Tryz.ntmps39
  go_wp2_with fail
  go_region
  all_goals (go_wp2_with fail; go_ret; exact ⟨rfl, Below.drew (Below.refl B w)⟩)

theorem string_empty (B b : Nat) (w : World) (h : Lib.IsBuilder 59 5 B b [] w) (hBw : B ≤ w.heap.size) :
    Calls Tryz.prog 39 #[.pointer (some ⟨b, 0, none⟩)] w fun e w' => e = .returned (.string ⟨#[]⟩) ∧ Below B w w' := by
  obtain ⟨p, hB, v, hbk, hown, hne⟩ : ∃ p, Lib.BuilderAt 59 5 B b p [] w := by
    rcases h with h | h
    · exact ⟨_, h⟩
    · exact ⟨_, h⟩
  rcases hown.2 with ⟨rfl, _⟩ | ⟨g, cap, cur, rfl, hbg, hg, _, _, _, _⟩
  · exact string_nil B b p w hbk
  · by_cases hc0 : cap = 0
    · subst hc0
      exact string_noroom B b g p cur w hBw hbk hg
    · exact string_room B b g cap p w hc0 hbk

theorem string_any (B b : Nat) (l : List UInt8) (w : World) (h : Lib.IsBuilder 59 5 B b (Lib.byteCells l) w) (hBw : B ≤ w.heap.size) :
    Calls Tryz.prog 39 #[.pointer (some ⟨b, 0, none⟩)] w fun e w' => e = .returned (.string ⟨l.toArray⟩) ∧ Below B w w' := by
  cases l with
  | nil => exact string_empty B b w h hBw
  | cons x r => exact string B b (x :: r) w h (by simp)

end Go.Proofs.YtlkdmpfifpkpaaaGreatDoor
namespace Go.Proofs.YtlkdmpfifpkpaaaGreatDoor
open Go.RowKit

/-- the entry with a number, or nil -/
def pE (es : List Nat) (i : Nat) : Value := match es[i]? with | some b => .pointer (some ⟨b, 0, none⟩) | none => .pointer none
theorem gD_old {es : List Nat} {i b : Nat} (h : i < es.length) : (es ++ [b]).getD i 0 = es.getD i 0 := by
  rw [List.getD_eq_getElem?_getD, List.getD_eq_getElem?_getD, List.getElem?_append_left h]
theorem gD_new {es : List Nat} {b : Nat} : (es ++ [b]).getD es.length 0 = b := by
  rw [List.getD_eq_getElem?_getD]
  simp
/-- a note of a list -/
def nM (ns : List (Int × ByteArray)) (i : Nat) : Int := ((ns[i]?).map (·.1)).getD 0
def nL (ns : List (Int × ByteArray)) (i : Nat) : ByteArray := ((ns[i]?).map (·.2)).getD ⟨#[]⟩
theorem nM_at {ns : List (Int × ByteArray)} {i : Nat} (h : i < ns.length) : nM ns i = (ns[i]).1 := by unfold nM; rw [List.getElem?_eq_getElem h]; rfl
theorem nL_at {ns : List (Int × ByteArray)} {i : Nat} (h : i < ns.length) : nL ns i = (ns[i]).2 := by unfold nL; rw [List.getElem?_eq_getElem h]; rfl
theorem nM_old {ns : List (Int × ByteArray)} {z : Int × ByteArray} {i : Nat} (h : i < ns.length) : nM (ns ++ [z]) i = nM ns i ∧ nL (ns ++ [z]) i = nL ns i := by
  unfold nM nL
  rw [List.getElem?_append_left h]
  exact ⟨rfl, rfl⟩
/-- block r is a register of the entries es that hold the notes ns -/
structure RgC (w : World) (r : Nat) (es : List Nat) (ns : List (Int × ByteArray)) : Prop where
  box : Bx w r 210 #[pE es 0, pE es (es.length - 1), .int .i64 es.length]
  len : es.length = ns.length
  ent : ∀ i, i < es.length → Bx w (es.getD i 0) 213 #[.int .i64 (nM ns i), .string (nL ns i), pE es (i + 1)]
  dst : ∀ i, i < es.length → es.getD i 0 ≠ r
  inj : ∀ i j, i < es.length → j < es.length → es.getD i 0 = es.getD j 0 → i = j
theorem RgC.below {w w' : World} {r B : Nat} {es : List Nat} {ns : List (Int × ByteArray)} (h : RgC w r es ns) (hb : Below B w w') (hB : w.heap.size ≤ B) : RgC w' r es ns :=
  ⟨h.box.below hb (Nat.lt_of_lt_of_le h.box.lt hB), h.len, fun i hi => (h.ent i hi).below hb (Nat.lt_of_lt_of_le (h.ent i hi).lt hB), h.dst, h.inj⟩
theorem RgC.alloc {w : World} {r : Nat} {es : List Nat} {ns : List (Int × ByteArray)} (h : RgC w r es ns) (o : Obj) : RgC (w.alloc o) r es ns := h.below (below_all _ _) (Nat.le_refl _)
theorem RgC.drew {w : World} {r : Nat} {es : List Nat} {ns : List (Int × ByteArray)} (h : RgC w r es ns) : RgC w.drew r es ns := h.below (Below.refl _ w).drew (Nat.le_refl _)
/-- a register without notes -/
theorem RgC.nil {w : World} {r : Nat} (h : Bx w r 210 #[.pointer none, .pointer none, .int .i64 0]) : RgC w r [] [] :=
  ⟨h, rfl, fun i hi => by simp at hi, fun i hi => by simp at hi, fun i j hi => by simp at hi⟩
/-- all blocks of a register lie at a bound or above -/
def RgB (B r : Nat) (es : List Nat) : Prop := B ≤ r ∧ ∀ i, i < es.length → B ≤ es.getD i 0
theorem RgB.push {B r b : Nat} {es : List Nat} (h : RgB B r es) (hb : B ≤ b) : RgB B r (es ++ [b]) := ⟨h.1, fun i hi => by
  rcases Nat.lt_or_ge i es.length with h1 | h1
  · rw [gD_old h1]; exact h.2 i h1
  · simp at hi
    obtain rfl : i = es.length := by omega
    rw [gD_new]; exact hb⟩
theorem RgB.mono {B D r : Nat} {es : List Nat} (h : RgB B r es) (hD : D ≤ B) : RgB D r es := ⟨Nat.le_trans hD h.1, fun i hi => Nat.le_trans hD (h.2 i hi)⟩
end Go.Proofs.YtlkdmpfifpkpaaaGreatDoor
namespace Go.Proofs.YtlkdmpfifpkpaaaGreatDoor
open Go.RowKit

/-- the words of the commands, how many words each wants, what it does -/
def cmW : Nat → ByteArray
  | 0 => ⟨#[108, 105, 110, 101]⟩
  | 1 => ⟨#[119, 97, 105, 116]⟩
  | 2 => ⟨#[100, 111]⟩
  | 3 => ⟨#[102, 105, 110, 105, 115, 104]⟩
  | 4 => ⟨#[119, 104, 101, 114, 101]⟩
  | 5 => ⟨#[110, 101, 120, 116]⟩
  | 6 => ⟨#[98, 111, 111, 107]⟩
  | 7 => ⟨#[102, 105, 116]⟩
  | _ => ⟨#[98, 117, 115, 121]⟩
def cmN : Nat → Int
  | 0 => 3
  | 1 => 2
  | 2 => 3
  | 3 => 1
  | 4 => 1
  | 5 => 1
  | 6 => 2
  | 7 => -1
  | _ => 2
def cmF : Nat → Nat
  | 0 => 96
  | 1 => 97
  | 2 => 98
  | 3 => 99
  | 4 => 100
  | 5 => 101
  | 6 => 102
  | 7 => 103
  | _ => 104
def cmC : Array Value := #[.string (cmW 0), .int .i64 (cmN 0), .func (.func (cmF 0)) #[] #[], .string (cmW 1), .int .i64 (cmN 1), .func (.func (cmF 1)) #[] #[], .string (cmW 2), .int .i64 (cmN 2), .func (.func (cmF 2)) #[] #[],
  .string (cmW 3), .int .i64 (cmN 3), .func (.func (cmF 3)) #[] #[], .string (cmW 4), .int .i64 (cmN 4), .func (.func (cmF 4)) #[] #[], .string (cmW 5), .int .i64 (cmN 5), .func (.func (cmF 5)) #[] #[],
  .string (cmW 6), .int .i64 (cmN 6), .func (.func (cmF 6)) #[] #[], .string (cmW 7), .int .i64 (cmN 7), .func (.func (cmF 7)) #[] #[], .string (cmW 8), .int .i64 (cmN 8), .func (.func (cmF 8)) #[] #[]]
theorem cmC_at {k : Nat} (h : k < 9) : cmC[k * 3]? = some (.string (cmW k)) ∧ cmC[k * 3 + 1]? = some (.int .i64 (cmN k)) ∧ cmC[k * 3 + 2]? = some (.func (.func (cmF k)) #[] #[]) := by
  match k, h with
  | 0, _ => exact ⟨rfl, rfl, rfl⟩
  | 1, _ => exact ⟨rfl, rfl, rfl⟩
  | 2, _ => exact ⟨rfl, rfl, rfl⟩
  | 3, _ => exact ⟨rfl, rfl, rfl⟩
  | 4, _ => exact ⟨rfl, rfl, rfl⟩
  | 5, _ => exact ⟨rfl, rfl, rfl⟩
  | 6, _ => exact ⟨rfl, rfl, rfl⟩
  | 7, _ => exact ⟨rfl, rfl, rfl⟩
  | 8, _ => exact ⟨rfl, rfl, rfl⟩
set_option maxRecDepth 100000 in
set_option maxHeartbeats 1000000 in
set_option linter.unusedSimpArgs false in
theorem commands_any (w : World) :
    Calls Tryz.prog 74 #[] w fun e w' => e = .returned (.slice (some ⟨w.heap.size, 0, none⟩) 9 9) ∧ w' = w.alloc (.cells cmC 119) := by
  go_enter Tryz.func74, Tryz.ntmps74
  go_wp2_with fail
  go_ret
  exact ⟨rfl, rfl⟩
set_option maxRecDepth 100000 in
set_option maxHeartbeats 1000000 in
set_option linter.unusedSimpArgs false in
/-- the closure that asks for a word -/
theorem do1_any (z : ByteArray) (n : Int) (f : Value) (bx bw ow m c : Nat) (w0 : ByteArray) (w : World) (hm : 0 < m) (hx : Bx w bx 60 #[.slice (some ⟨bw, ow, none⟩) m c]) (h0 : w.cell? ⟨bw, ow, none⟩ = some (.string w0)) :
    Calls Tryz.prog 76 #[.agg #[.string z, .int .i64 n, f], .pointer (some ⟨bx, 0, none⟩)] w fun e w' => e = .returned (.bool (z.toList == w0.toList)) ∧ Below w.heap.size w w' := by
  have HX := Lib.hid hx
  have hbw : bw < w.heap.size := World.block_lt_of_cell? w ⟨bw, ow, none⟩ h0
  have H0 := Lib.hid h0
  clear hx h0
  go_enter Tryz.func76, Tryz.ntmps76
  go_wp2_with fail
  have HZ : Hid (Bx (w.alloc (.cells #[.string z, .int .i64 n, f] 119)) w.heap.size 119 #[.string z, .int .i64 n, f]) := Bx.new _ _ _
  have HB : Hid (Below w.heap.size w (w.alloc (.cells #[.string z, .int .i64 n, f] 119))) := below_all _ _
  have hq1 : (w.alloc (.cells #[.string z, .int .i64 n, f] 119)).drew.cell? ⟨w.heap.size, 0, none⟩ = some (.string z) := (HZ.out.below (Below.refl _ _).drew HZ.out.lt).cell 0
  have hq2 : (w.alloc (.cells #[.string z, .int .i64 n, f] 119)).drew.cell? ⟨bx, 0, none⟩ = some (.slice (some ⟨bw, ow, none⟩) m c) := (HX.out.below HB.out.drew HX.out.lt).cell 0
  have hq3 : (w.alloc (.cells #[.string z, .int .i64 n, f] 119)).drew.cell? ⟨bw, ow, none⟩ = some (.string w0) := by rw [HB.out.drew.cell (p := ⟨bw, ow, none⟩) hbw]; exact H0.out
  have hmi : (0 : Int) < (m : Int) := by omega
  refine wp_region_held_drew (S := fun W => W.cell? ⟨w.heap.size, 0, none⟩ = some (.string z) ∧ W.cell? ⟨bx, 0, none⟩ = some (.slice (some ⟨bw, ow, none⟩) m c) ∧ W.cell? ⟨bw, ow, none⟩ = some (.string w0)) (by kernel_rfl) ⟨hq1, hq2, hq3⟩ (fun hHeld => ?_)
  clear hq1 hq2 hq3
  refine wpAnyH_take (i := 0) (oi := ?_) (v := ?_) ?_ (by kernel_rfl) (by kernel_rfl) (by kernel_rfl) ?_ ?_ (by assumption) ?_
  rotate_left 2
  · simp only [List.getElem?_toArray, List.getElem?_cons_succ, List.getElem?_cons_zero]; rfl
  · exact fun _ _ _ h => h
  · first
      | (refine Or.inr ⟨?_, ?_⟩ <;> rfl)
      | (refine Or.inl ⟨?_, ?_⟩; · rfl
         intro w hSw; (try dsimp only at hSw); go_simp; (try with_reducible rfl); done)
  try simp only [Act.put, List.setIfInBounds_toArray, List.set_cons_zero, List.set_cons_succ]
  refine wpAnyH_take (i := 1) (oi := ?_) (v := ?_) ?_ (by kernel_rfl) (by kernel_rfl) (by kernel_rfl) ?_ ?_ (by assumption) ?_
  rotate_left 2
  · simp only [List.getElem?_toArray, List.getElem?_cons_succ, List.getElem?_cons_zero]; rfl
  · exact fun _ _ _ h => h
  · first
      | (refine Or.inr ⟨?_, ?_⟩ <;> rfl)
      | (refine Or.inl ⟨?_, ?_⟩; · rfl
         intro w hSw; (try dsimp only at hSw); go_simp; (try with_reducible rfl); done)
  try simp only [Act.put, List.setIfInBounds_toArray, List.set_cons_zero, List.set_cons_succ]
  refine wpAnyH_take (i := 2) (oi := ?_) (v := ?_) ?_ (by kernel_rfl) (by kernel_rfl) (by kernel_rfl) ?_ ?_ (by assumption) ?_
  rotate_left 2
  · simp only [List.getElem?_toArray, List.getElem?_cons_succ, List.getElem?_cons_zero]; rfl
  · exact fun _ _ _ h => h
  · first
      | (refine Or.inr ⟨?_, ?_⟩ <;> rfl)
      | (refine Or.inl ⟨?_, ?_⟩; · rfl
         intro w hSw; (try dsimp only at hSw); go_simp; (try with_reducible rfl); done)
  try simp only [Act.put, List.setIfInBounds_toArray, List.set_cons_zero, List.set_cons_succ]
  refine wpAnyH_take (i := 3) (oi := ?_) (v := ?_) ?_ (by kernel_rfl) (by kernel_rfl) (by kernel_rfl) ?_ ?_ (by assumption) ?_
  rotate_left 2
  · simp only [List.getElem?_toArray, List.getElem?_cons_succ, List.getElem?_cons_zero]; rfl
  · exact fun _ _ _ h => h
  · first
      | (refine Or.inr ⟨?_, ?_⟩ <;> rfl)
      | (refine Or.inl ⟨?_, ?_⟩; · rfl
         intro w hSw; (try dsimp only at hSw); go_simp; (try with_reducible rfl); done)
  try simp only [Act.put, List.setIfInBounds_toArray, List.set_cons_zero, List.set_cons_succ]
  refine wpAnyH_take (i := 4) (oi := ?_) (v := ?_) ?_ (by kernel_rfl) (by kernel_rfl) (by kernel_rfl) ?_ ?_ (by assumption) ?_
  rotate_left 2
  · simp only [List.getElem?_toArray, List.getElem?_cons_succ, List.getElem?_cons_zero]; rfl
  · exact fun _ _ _ h => h
  · first
      | (refine Or.inr ⟨?_, ?_⟩ <;> rfl)
      | (refine Or.inl ⟨?_, ?_⟩; · rfl
         intro w hSw; (try dsimp only at hSw); go_simp; (try with_reducible rfl); done)
  try simp only [Act.put, List.setIfInBounds_toArray, List.set_cons_zero, List.set_cons_succ]
  refine wpAnyH_take (i := 5) (oi := ?_) (v := ?_) ?_ (by kernel_rfl) (by kernel_rfl) (by kernel_rfl) ?_ ?_ (by assumption) ?_
  rotate_left 2
  · simp only [List.getElem?_toArray, List.getElem?_cons_succ, List.getElem?_cons_zero]; rfl
  · exact fun _ _ _ h => h
  · first
      | (refine Or.inr ⟨?_, ?_⟩ <;> rfl)
      | (refine Or.inl ⟨?_, ?_⟩; · rfl
         intro w hSw; (try dsimp only at hSw); go_simp; (try with_reducible rfl); done)
  try simp only [Act.put, List.setIfInBounds_toArray, List.set_cons_zero, List.set_cons_succ]
  refine wpAnyH_take (i := 6) (oi := ?_) (v := ?_) ?_ (by kernel_rfl) (by kernel_rfl) (by kernel_rfl) ?_ ?_ (by assumption) ?_
  rotate_left 2
  · simp only [List.getElem?_toArray, List.getElem?_cons_succ, List.getElem?_cons_zero]; rfl
  · exact fun _ _ _ h => h
  · first
      | (refine Or.inr ⟨?_, ?_⟩ <;> rfl)
      | (refine Or.inl ⟨?_, ?_⟩; · rfl
         intro w hSw; (try dsimp only at hSw); go_simp; (try with_reducible rfl); done)
  try simp only [Act.put, List.setIfInBounds_toArray, List.set_cons_zero, List.set_cons_succ]
  refine wpAnyH_done (by kernel_rfl) ?_ _
  go_wp2_with fail
  go_ret
  exact ⟨rfl, HB.out.drew⟩
end Go.Proofs.YtlkdmpfifpkpaaaGreatDoor
namespace Go.Proofs.YtlkdmpfifpkpaaaGreatDoor
open Go.RowKit

/-- the command with a word; 9 where there is none -/
def ixC (w0 : ByteArray) : Nat := (List.range 9).findIdx fun k => (cmW k).toList == w0.toList
def ixR (w0 : ByteArray) : Int := if ixC w0 < 9 then (ixC w0 : Int) else -1
theorem ixC_no {w0 : ByteArray} (h : ∀ j, j < 9 → ((cmW j).toList == w0.toList) = false) : ixC w0 = 9 := by
  unfold ixC
  rw [List.findIdx_eq_length_of_false]
  · simp
  · intro x hx
    exact h x (List.mem_range.1 hx)
theorem ixC_hit {w0 : ByteArray} {k : Nat} (hk : k < 9) (h1 : ((cmW k).toList == w0.toList) = true) (h2 : ∀ j, j < k → ((cmW j).toList == w0.toList) = false) : ixC w0 = k := by
  unfold ixC
  rw [List.findIdx_eq (by simpa using hk)]
  refine ⟨by simpa using h1, fun j hj => ?_⟩
  simpa using h2 j hj
set_option maxRecDepth 100000 in
set_option maxHeartbeats 1000000 in
set_option linter.unusedSimpArgs false in
theorem indexFunc_any (bt bx bw ow m c : Nat) (w0 : ByteArray) (w : World) (hm : 0 < m) (ht : Bx w bt 119 cmC) (hx : Bx w bx 60 #[.slice (some ⟨bw, ow, none⟩) m c]) (h0 : w.cell? ⟨bw, ow, none⟩ = some (.string w0)) :
    Calls Tryz.prog 75 #[.slice (some ⟨bt, 0, none⟩) 9 9, .func (.func 76) #[] #[.pointer (some ⟨bx, 0, none⟩)]] w fun e w' => e = .returned (.int .i64 (ixR w0)) ∧ Below w.heap.size w w' := by
  have HT := Lib.hid ht
  have HX := Lib.hid hx
  have hbw : bw < w.heap.size := World.block_lt_of_cell? w ⟨bw, ow, none⟩ h0
  have H0 := Lib.hid h0
  clear ht hx h0
  go_enter Tryz.func75, Tryz.ntmps75
  go_wp2_with fail
  go_loopw [5, 8] (fun _ i wr => ∃ k : Nat, k ≤ 9 ∧ i = .int .i64 k ∧ Hid (∀ j, j < k → ((cmW j).toList == w0.toList) = false) ∧ Hid (Below w.heap.size w wr)) (fun _ i _ => 9 - (intOf i).toNat)
  case atStart => exact ⟨0, Nat.zero_le _, rfl, fun j hj => by omega, Below.refl _ _⟩
  case round =>
    obtain ⟨k, hk, rfl, HJ, HI⟩ := hrel
    by_cases hlt : k < 9
    · have hki : (k : Int) < 9 := by omega
      have HT2 := HT.out.below HI.out HT.out.lt
      obtain ⟨c0, c1, c2⟩ := cmC_at hlt
      have d0 := (HT2.cell (k * 3)).trans c0
      have d1 := (HT2.cell (k * 3 + 1)).trans c1
      have d2 := (HT2.cell (k * 3 + 2)).trans c2
      have HD := Lib.hid (do1_any (cmW k) (cmN k) (.func (.func (cmF k)) #[] #[]) bx bw ow m c w0 wr hm (HX.out.below HI.out HX.out.lt) (by rw [HI.out.cell (p := ⟨bw, ow, none⟩) hbw]; exact H0.out))
      have HH : Hid (((cmW k).toList == w0.toList) = true → ixC w0 = k) := fun h => ixC_hit hlt h HJ.out
      have HN : Hid (((cmW k).toList == w0.toList) = false → ∀ j, j < k + 1 → ((cmW j).toList == w0.toList) = false) := fun h j hj => by
        rcases Nat.lt_or_ge j k with q | q
        · exact HJ.out j q
        · obtain rfl : j = k := by omega
          exact h
      clear HT2 c0 c1 c2
      generalize ((cmW k).toList == w0.toList) = t at *
      generalize cmW k = z at *
      generalize cmN k = n at *
      generalize cmF k = f at *
      go_wp2_with fail
      refine HD.out.mono ?_
      rintro e w2 ⟨rfl, hb2⟩
      replace HI := Lib.hid (HI.out.trans (hb2.mono HI.out.size))
      clear hb2 HD d0 d1 d2
      cases t
      · have HJ2 := Lib.hid (HN.out rfl)
        clear HN HH
        go_wp2_with fail
        go_roundw
        case rel => exact ⟨k + 1, by omega, by go_num, HJ2.out, HI.out⟩
        case measure => simp [intOf]; omega
      · have HV : Hid (ixR w0 = k) := by show _ = _; unfold ixR; rw [HH.out rfl, if_pos hlt]
        clear HN HH
        go_wp2_with fail
        go_ret
        exact ⟨by rw [HV.out]; rfl, HI.out⟩
    · obtain rfl : k = 9 := by omega
      have HV : Hid (ixR w0 = -1) := by show _ = _; unfold ixR; rw [ixC_no HJ.out]; rfl
      go_wp2_with fail
      go_ret
      exact ⟨by rw [HV.out]; rfl, HI.out⟩
end Go.Proofs.YtlkdmpfifpkpaaaGreatDoor
