/-
  Parts of the proof of fnExecuteBook_proved: Bk Bs Ja Jc Sb Ka Jd. No condition.
-/
import Derived.Laws.BitsAllLaws
import Derived.WalkKit
import Derived.WalkSpells
import Derived.WalkLawsBesides
import Derived.Lib.Hide
import Derived.BigQuiet
import Derived.Deep.QuietTactic
import Derived.Deep.RegionHeld3
import Derived.Deep.DeepFit
import Derived.Test.YtlkdmpfifpkpaaaGreatDoorChecked
import Derived.Deep.RegionWith
import Derived.Lib.Strings
import Derived.Shelf.Strings.Builder1
import Derived.Shelf.Strings.Builder2
import Derived.Shelf.Strings.OnBuilder
import Derived.Shelf.Strings.BuilderF
import Derived.Shelf.Strconv.Itoa0
import Derived.Shelf.Strconv.Itoa1
import Derived.Shelf.LaysM
import Derived.Shelf.Strconv.Itoa2
import Derived.Shelf.Strconv.Itoa3
import Derived.Shelf.Strings.Search1
import Derived.Shelf.Strings.Search2
import Derived.Shelf.Strings.Search3
import Derived.Shelf.Strings.Count
import Derived.Shelf.Strings.Shaped
import Derived.Shelf.Strings.Split
import Derived.Shelf.Strings.SplitShaped
import Derived.Shelf.Unicode.DecodeSlow
import Derived.Test.YtlkdmpfifpkpaaaGreatDoorProg
import Derived.Recover
import Derived.Defers
import Derived.Lib.Builder
import Derived.Lib.AppendStr
import Derived.Lib.UnsafeStr
import Derived.Lib.Slices
import Derived.Laws.Externs
import Derived.Test.YtlkdmpfifpkpaaaGreatDoorQ01
namespace Go.Proofs.YtlkdmpfifpkpaaaGreatDoor
open Go.RowKit

/-- a block as data -/
structure Bk where
  n : Int
  i : Bool
  o : Bool
deriving DecidableEq
/-- the blocks of the five states -/
def stB : Nat → Bk
  | 0 => ⟨0, false, false⟩
  | 1 => ⟨0, false, true⟩
  | 2 => ⟨1, false, false⟩
  | 3 => ⟨2, true, false⟩
  | _ => ⟨2, false, false⟩

theorem normalState_meth (f : Nat) (w : World) : (method (f + 1) 133 (.agg #[]) "loop.example/blockboxes/impl.block").run Tryz.prog w = .ok (198, .agg #[]) w := by kernel_rfl
theorem offeredState_meth (f : Nat) (w : World) : (method (f + 1) 134 (.agg #[]) "loop.example/blockboxes/impl.block").run Tryz.prog w = .ok (199, .agg #[]) w := by kernel_rfl
theorem clearState_meth (f : Nat) (w : World) : (method (f + 1) 135 (.agg #[]) "loop.example/blockboxes/impl.block").run Tryz.prog w = .ok (200, .agg #[]) w := by kernel_rfl
theorem insideState_meth (f : Nat) (w : World) : (method (f + 1) 136 (.agg #[]) "loop.example/blockboxes/impl.block").run Tryz.prog w = .ok (201, .agg #[]) w := by kernel_rfl
theorem passedState_meth (f : Nat) (w : World) : (method (f + 1) 137 (.agg #[]) "loop.example/blockboxes/impl.block").run Tryz.prog w = .ok (202, .agg #[]) w := by kernel_rfl
theorem normalState_block (w : World) : Calls Tryz.prog 198 #[.agg #[]] w fun e w' => e = .returned (.agg #[.int .i64 0, .bool false, .bool false]) ∧ Below w.heap.size w w' := by
  go_enter Tryz.func198, Tryz.ntmps198
  go_wp2_with fail
  exact bodyPost_ret (v := .agg #[.int .i64 0, .bool false, .bool false]) (by simp [results, Tryz.results198, go_sem]) rfl ⟨rfl, ((Below.refl _ _).alloc (Nat.le_refl _) _).alloc (by simp) _⟩
theorem offeredState_block (w : World) : Calls Tryz.prog 199 #[.agg #[]] w fun e w' => e = .returned (.agg #[.int .i64 0, .bool false, .bool true]) ∧ Below w.heap.size w w' := by
  go_enter Tryz.func199, Tryz.ntmps199
  go_wp2_with fail
  exact bodyPost_ret (v := .agg #[.int .i64 0, .bool false, .bool true]) (by simp [results, Tryz.results199, go_sem]) rfl ⟨rfl, ((Below.refl _ _).alloc (Nat.le_refl _) _).alloc (by simp) _⟩
theorem clearState_block (w : World) : Calls Tryz.prog 200 #[.agg #[]] w fun e w' => e = .returned (.agg #[.int .i64 1, .bool false, .bool false]) ∧ Below w.heap.size w w' := by
  go_enter Tryz.func200, Tryz.ntmps200
  go_wp2_with fail
  exact bodyPost_ret (v := .agg #[.int .i64 1, .bool false, .bool false]) (by simp [results, Tryz.results200, go_sem]) rfl ⟨rfl, ((Below.refl _ _).alloc (Nat.le_refl _) _).alloc (by simp) _⟩
theorem insideState_block (w : World) : Calls Tryz.prog 201 #[.agg #[]] w fun e w' => e = .returned (.agg #[.int .i64 2, .bool true, .bool false]) ∧ Below w.heap.size w w' := by
  go_enter Tryz.func201, Tryz.ntmps201
  go_wp2_with fail
  exact bodyPost_ret (v := .agg #[.int .i64 2, .bool true, .bool false]) (by simp [results, Tryz.results201, go_sem]) rfl ⟨rfl, ((Below.refl _ _).alloc (Nat.le_refl _) _).alloc (by simp) _⟩
theorem passedState_block (w : World) : Calls Tryz.prog 202 #[.agg #[]] w fun e w' => e = .returned (.agg #[.int .i64 2, .bool false, .bool false]) ∧ Below w.heap.size w w' := by
  go_enter Tryz.func202, Tryz.ntmps202
  go_wp2_with fail
  exact bodyPost_ret (v := .agg #[.int .i64 2, .bool false, .bool false]) (by simp [results, Tryz.results202, go_sem]) rfl ⟨rfl, ((Below.refl _ _).alloc (Nat.le_refl _) _).alloc (by simp) _⟩

/-- the state with a number as an interface value -/
def ifV : Nat → Value
  | 0 => .iface 133 (.agg #[])
  | 1 => .iface 134 (.agg #[])
  | 2 => .iface 135 (.agg #[])
  | 3 => .iface 136 (.agg #[])
  | _ => .iface 137 (.agg #[])
def allI : Array Value := #[.iface 133 (.agg #[]), .iface 134 (.agg #[]), .iface 135 (.agg #[]), .iface 136 (.agg #[]), .iface 137 (.agg #[])]
/-- the boxes of the search -/
structure InM (w wr : World) (n : Int) (i o : Bool) : Prop where
  box : Bx wr w.heap.size 76 #[.int .i64 n, .bool i, .bool o]
  lit : Bx wr (w.heap.size + 1) 103 allI
  bl : Below w.heap.size w wr
theorem InM.below {w wr w' : World} {n : Int} {i o : Bool} {B : Nat} (h : InM w wr n i o) (hb : Below B wr w') (hB : B = wr.heap.size) : InM w w' n i o := by
  subst hB
  exact ⟨h.box.below hb h.box.lt, h.lit.below hb h.lit.lt, h.bl.trans (hb.mono h.bl.size)⟩
/-- a block is that of a state -/
def bkE (k : Nat) (n : Int) (i o : Bool) : Bool := decide ((stB k).n = n) && (decide ((stB k).i = i) && decide ((stB k).o = o))
theorem bkq0 {n : Int} {i o b : Bool} (h : bkE 0 n i o = b) (w : World) : (if 0 = n then (if i = true then Result.ok (Next.value (Value.bool false)) w else if o = true then Result.ok (Next.value (Value.bool false)) w else Result.ok (Next.value (Value.bool true)) w) else Result.ok (Next.value (Value.bool false)) w) = Result.ok (Next.value (Value.bool b)) w := by
  subst h
  cases i <;> cases o <;> by_cases h0 : (0 : Int) = n <;> simp [bkE, stB, h0]
theorem bkq1 {n : Int} {i o b : Bool} (h : bkE 1 n i o = b) (w : World) : (if 0 = n then (if i = true then Result.ok (Next.value (Value.bool false)) w else if o = false then Result.ok (Next.value (Value.bool false)) w else Result.ok (Next.value (Value.bool true)) w) else Result.ok (Next.value (Value.bool false)) w) = Result.ok (Next.value (Value.bool b)) w := by
  subst h
  cases i <;> cases o <;> by_cases h0 : (0 : Int) = n <;> simp [bkE, stB, h0]
theorem bkq2 {n : Int} {i o b : Bool} (h : bkE 2 n i o = b) (w : World) : (if 1 = n then (if i = true then Result.ok (Next.value (Value.bool false)) w else if o = true then Result.ok (Next.value (Value.bool false)) w else Result.ok (Next.value (Value.bool true)) w) else Result.ok (Next.value (Value.bool false)) w) = Result.ok (Next.value (Value.bool b)) w := by
  subst h
  cases i <;> cases o <;> by_cases h0 : (1 : Int) = n <;> simp [bkE, stB, h0]
theorem bkq3 {n : Int} {i o b : Bool} (h : bkE 3 n i o = b) (w : World) : (if 2 = n then (if i = false then Result.ok (Next.value (Value.bool false)) w else if o = true then Result.ok (Next.value (Value.bool false)) w else Result.ok (Next.value (Value.bool true)) w) else Result.ok (Next.value (Value.bool false)) w) = Result.ok (Next.value (Value.bool b)) w := by
  subst h
  cases i <;> cases o <;> by_cases h0 : (2 : Int) = n <;> simp [bkE, stB, h0]
theorem bkq4 {n : Int} {i o b : Bool} (h : bkE 4 n i o = b) (w : World) : (if 2 = n then (if i = true then Result.ok (Next.value (Value.bool false)) w else if o = true then Result.ok (Next.value (Value.bool false)) w else Result.ok (Next.value (Value.bool true)) w) else Result.ok (Next.value (Value.bool false)) w) = Result.ok (Next.value (Value.bool b)) w := by
  subst h
  cases i <;> cases o <;> by_cases h0 : (2 : Int) = n <;> simp [bkE, stB, h0]
/-- the number of a block's state; 5 where there is none -/
def stI (n : Int) (i o : Bool) : Nat := if bkE 0 n i o = true then 0 else if bkE 1 n i o = true then 1 else if bkE 2 n i o = true then 2 else if bkE 3 n i o = true then 3 else if bkE 4 n i o = true then 4 else 5
/-- what instrumentOf hands back -/
def inV (k : Nat) : Value := if k < 5 then ifV k else .nilIface
theorem stI_at {n : Int} {i o : Bool} {k : Nat} (hk : k < 5) (h : bkE k n i o = true) (hn : ∀ j, j < k → bkE j n i o = false) : stI n i o = k := by
  have h5 : k = 0 ∨ k = 1 ∨ k = 2 ∨ k = 3 ∨ k = 4 := by omega
  unfold stI
  rcases h5 with rfl | rfl | rfl | rfl | rfl
  · rw [if_pos h]
  · rw [hn 0 (by omega), if_neg (by simp), if_pos h]
  · rw [hn 0 (by omega), hn 1 (by omega), if_neg (by simp), if_neg (by simp), if_pos h]
  · rw [hn 0 (by omega), hn 1 (by omega), hn 2 (by omega), if_neg (by simp), if_neg (by simp), if_neg (by simp), if_pos h]
  · rw [hn 0 (by omega), hn 1 (by omega), hn 2 (by omega), hn 3 (by omega), if_neg (by simp), if_neg (by simp), if_neg (by simp), if_neg (by simp), if_pos h]
theorem stI_no {n : Int} {i o : Bool} (hn : ∀ j, j < 5 → bkE j n i o = false) : stI n i o = 5 := by
  unfold stI
  rw [hn 0 (by omega), hn 1 (by omega), hn 2 (by omega), hn 3 (by omega), hn 4 (by omega)]
  simp
set_option linter.unusedSimpArgs false in
set_option maxRecDepth 100000 in
set_option maxHeartbeats 4000000 in
theorem instr_any (n : Int) (i o : Bool) (w : World) :
    Calls Tryz.prog 66 #[.agg #[.int .i64 n, .bool i, .bool o]] w fun e w' => e = .returned (.tuple #[inV (stI n i o), .bool (decide (stI n i o < 5))]) ∧ Below w.heap.size w w' := by
  go_enter Tryz.func66, Tryz.ntmps66
  go_wp2_with fail
  go_loopw [20] (fun s wr => ∃ k : Nat, k ≤ 5 ∧ s = .int .i64 k ∧ Hid (∀ j, j < k → bkE j n i o = false) ∧ InM w wr n i o) (fun s _ => 5 - (intOf s).toNat)
  case atStart => exact ⟨0, by omega, rfl, Lib.hid (fun j hj => by omega), ⟨(Bx.new _ _ _).alloc _, Bx.newAt (by simp), ((Below.refl _ _).alloc (Nat.le_refl _) _).alloc (by simp) _⟩⟩
  case round =>
    obtain ⟨k, hk, rfl, HA, hm⟩ := hrel
    have HM := Lib.hid hm
    have hbx := hm.box.cell
    have hlx := hm.lit.cell
    clear hm
    have h5 : k = 0 ∨ k = 1 ∨ k = 2 ∨ k = 3 ∨ k = 4 ∨ k = 5 := by omega
    rcases h5 with rfl | rfl | rfl | rfl | rfl | rfl
    · have hl0 : wr.cell? ⟨w.heap.size + 1, 0, none⟩ = some (.iface 133 (.agg #[])) := hlx 0
      have hme := fun (f : Nat) (w : World) => normalState_meth f w
      clear hlx
      cases he : bkE 0 n i o
      · have HE := Lib.hid he
        clear he
        go_wp2_with fail
        refine wp_region_held_drew (S := (fun w' => w'.cell? ⟨w.heap.size, 0, none⟩ = some (.int .i64 n) ∧ w'.cell? ⟨w.heap.size, 1, none⟩ = some (.bool i) ∧ w'.cell? ⟨w.heap.size, 2, none⟩ = some (.bool o))) (by kernel_rfl) ?_ (fun hHeld => ?_)
        · try dsimp only
          go_keep
        refine wpAnyH_take (i := 0) (oi := ?_) (v := ?_) ?_ (by kernel_rfl) (by kernel_rfl) (by kernel_rfl) ?_ ?_ (by assumption) ?_
        rotate_left 2
        · simp only [List.getElem?_toArray, List.getElem?_cons_succ, List.getElem?_cons_zero]; rfl
        · exact fun _ _ _ h => h
        · first
            | (refine Or.inr ⟨?_, ?_⟩ <;> rfl)
            | (refine Or.inl ⟨?_, ?_⟩; · rfl
               intro w hSw; (try dsimp only at hSw); go_simp; (try with_reducible rfl); done)
        try simp only [Act.put, List.setIfInBounds_toArray, List.set_cons_zero, List.set_cons_succ]
        refine wpAnyH_take (i := 2) (oi := ?_) (v := ?_) ?_ (by kernel_rfl) (by kernel_rfl) (by kernel_rfl) ?_ ?_ (by assumption) ?_
        rotate_left 2
        · simp only [List.getElem?_toArray, List.getElem?_cons_succ, List.getElem?_cons_zero]; rfl
        · exact fun _ _ _ h => h
        · first
            | (refine Or.inr ⟨?_, ?_⟩ <;> rfl)
            | (refine Or.inl ⟨?_, ?_⟩; · rfl
               intro w hSw; (try dsimp only at hSw); go_simp; (try with_reducible rfl); done)
        try simp only [Act.put, List.setIfInBounds_toArray, List.set_cons_zero, List.set_cons_succ]
        refine wpAnyH_ready (rs := [1]) (by kernel_rfl) (by simp) ?_
        refine AllReadyH.cons (o := ?_) ?_ (fun K hK => ?_) AllReadyH.nil
        rotate_left 1
        · simp only [List.getElem?_toArray, List.getElem?_cons_succ, List.getElem?_cons_zero]; rfl
        go_simp
        go_at_call 198
        go_must (refine Calls.mono (normalState_block _) ?_)
        rintro e w2 ⟨rfl, hb⟩
        have HM2 := Lib.hid (HM.out.below ((Below.refl _ wr).drew.trans (hb.mono (by exact Nat.le_refl _))) rfl)
        have hbx2 := HM2.out.box.cell
        clear hb
        refine hK.out _ _ ?_ (fun hHeld => ?_)
        · try dsimp only
          go_keep
        clear hK K
        try simp only [Act.put, List.setIfInBounds_toArray, List.set_cons_zero, List.set_cons_succ]
        refine wpAnyH_take (i := 3) (oi := ?_) (v := ?_) ?_ (by kernel_rfl) (by kernel_rfl) (by kernel_rfl) ?_ ?_ (by assumption) ?_
        rotate_left 2
        · simp only [List.getElem?_toArray, List.getElem?_cons_succ, List.getElem?_cons_zero]; rfl
        · exact fun _ _ _ h => h
        · refine Or.inl ⟨?_, ?_⟩
          · rfl
          · intro w hSw; (try dsimp only at hSw); go_simp; exact bkq0 HE.out _
        try simp only [Act.put, List.setIfInBounds_toArray, List.set_cons_zero, List.set_cons_succ]
        refine wpAnyH_done (by kernel_rfl) ?_ _
        go_wp2_with fail
        go_roundw
        case rel => exact ⟨0 + 1, by omega, by first | rfl | go_num, Lib.hid (fun j hj => by
          by_cases e : j = 0
          · rw [e]; exact HE.out
          · exact HA.out j (by omega)), HM2.out⟩
        case measure => simp [intOf]
      · have HE := Lib.hid he
        clear he
        go_wp2_with fail
        refine wp_region_held_drew (S := (fun w' => w'.cell? ⟨w.heap.size, 0, none⟩ = some (.int .i64 n) ∧ w'.cell? ⟨w.heap.size, 1, none⟩ = some (.bool i) ∧ w'.cell? ⟨w.heap.size, 2, none⟩ = some (.bool o))) (by kernel_rfl) ?_ (fun hHeld => ?_)
        · try dsimp only
          go_keep
        refine wpAnyH_take (i := 0) (oi := ?_) (v := ?_) ?_ (by kernel_rfl) (by kernel_rfl) (by kernel_rfl) ?_ ?_ (by assumption) ?_
        rotate_left 2
        · simp only [List.getElem?_toArray, List.getElem?_cons_succ, List.getElem?_cons_zero]; rfl
        · exact fun _ _ _ h => h
        · first
            | (refine Or.inr ⟨?_, ?_⟩ <;> rfl)
            | (refine Or.inl ⟨?_, ?_⟩; · rfl
               intro w hSw; (try dsimp only at hSw); go_simp; (try with_reducible rfl); done)
        try simp only [Act.put, List.setIfInBounds_toArray, List.set_cons_zero, List.set_cons_succ]
        refine wpAnyH_take (i := 2) (oi := ?_) (v := ?_) ?_ (by kernel_rfl) (by kernel_rfl) (by kernel_rfl) ?_ ?_ (by assumption) ?_
        rotate_left 2
        · simp only [List.getElem?_toArray, List.getElem?_cons_succ, List.getElem?_cons_zero]; rfl
        · exact fun _ _ _ h => h
        · first
            | (refine Or.inr ⟨?_, ?_⟩ <;> rfl)
            | (refine Or.inl ⟨?_, ?_⟩; · rfl
               intro w hSw; (try dsimp only at hSw); go_simp; (try with_reducible rfl); done)
        try simp only [Act.put, List.setIfInBounds_toArray, List.set_cons_zero, List.set_cons_succ]
        refine wpAnyH_ready (rs := [1]) (by kernel_rfl) (by simp) ?_
        refine AllReadyH.cons (o := ?_) ?_ (fun K hK => ?_) AllReadyH.nil
        rotate_left 1
        · simp only [List.getElem?_toArray, List.getElem?_cons_succ, List.getElem?_cons_zero]; rfl
        go_simp
        go_at_call 198
        go_must (refine Calls.mono (normalState_block _) ?_)
        rintro e w2 ⟨rfl, hb⟩
        have HM2 := Lib.hid (HM.out.below ((Below.refl _ wr).drew.trans (hb.mono (by exact Nat.le_refl _))) rfl)
        have hbx2 := HM2.out.box.cell
        clear hb
        refine hK.out _ _ ?_ (fun hHeld => ?_)
        · try dsimp only
          go_keep
        clear hK K
        try simp only [Act.put, List.setIfInBounds_toArray, List.set_cons_zero, List.set_cons_succ]
        refine wpAnyH_take (i := 3) (oi := ?_) (v := ?_) ?_ (by kernel_rfl) (by kernel_rfl) (by kernel_rfl) ?_ ?_ (by assumption) ?_
        rotate_left 2
        · simp only [List.getElem?_toArray, List.getElem?_cons_succ, List.getElem?_cons_zero]; rfl
        · exact fun _ _ _ h => h
        · refine Or.inl ⟨?_, ?_⟩
          · rfl
          · intro w hSw; (try dsimp only at hSw); go_simp; exact bkq0 HE.out _
        try simp only [Act.put, List.setIfInBounds_toArray, List.set_cons_zero, List.set_cons_succ]
        refine wpAnyH_done (by kernel_rfl) ?_ _
        go_wp2_with fail
        go_ret2
        exact ⟨by rw [stI_at (by omega) HE.out HA.out]; rfl, HM2.out.bl⟩
    · have hl0 : wr.cell? ⟨w.heap.size + 1, 1, none⟩ = some (.iface 134 (.agg #[])) := hlx 1
      have hme := fun (f : Nat) (w : World) => offeredState_meth f w
      clear hlx
      cases he : bkE 1 n i o
      · have HE := Lib.hid he
        clear he
        go_wp2_with fail
        refine wp_region_held_drew (S := (fun w' => w'.cell? ⟨w.heap.size, 0, none⟩ = some (.int .i64 n) ∧ w'.cell? ⟨w.heap.size, 1, none⟩ = some (.bool i) ∧ w'.cell? ⟨w.heap.size, 2, none⟩ = some (.bool o))) (by kernel_rfl) ?_ (fun hHeld => ?_)
        · try dsimp only
          go_keep
        refine wpAnyH_take (i := 0) (oi := ?_) (v := ?_) ?_ (by kernel_rfl) (by kernel_rfl) (by kernel_rfl) ?_ ?_ (by assumption) ?_
        rotate_left 2
        · simp only [List.getElem?_toArray, List.getElem?_cons_succ, List.getElem?_cons_zero]; rfl
        · exact fun _ _ _ h => h
        · first
            | (refine Or.inr ⟨?_, ?_⟩ <;> rfl)
            | (refine Or.inl ⟨?_, ?_⟩; · rfl
               intro w hSw; (try dsimp only at hSw); go_simp; (try with_reducible rfl); done)
        try simp only [Act.put, List.setIfInBounds_toArray, List.set_cons_zero, List.set_cons_succ]
        refine wpAnyH_take (i := 2) (oi := ?_) (v := ?_) ?_ (by kernel_rfl) (by kernel_rfl) (by kernel_rfl) ?_ ?_ (by assumption) ?_
        rotate_left 2
        · simp only [List.getElem?_toArray, List.getElem?_cons_succ, List.getElem?_cons_zero]; rfl
        · exact fun _ _ _ h => h
        · first
            | (refine Or.inr ⟨?_, ?_⟩ <;> rfl)
            | (refine Or.inl ⟨?_, ?_⟩; · rfl
               intro w hSw; (try dsimp only at hSw); go_simp; (try with_reducible rfl); done)
        try simp only [Act.put, List.setIfInBounds_toArray, List.set_cons_zero, List.set_cons_succ]
        refine wpAnyH_ready (rs := [1]) (by kernel_rfl) (by simp) ?_
        refine AllReadyH.cons (o := ?_) ?_ (fun K hK => ?_) AllReadyH.nil
        rotate_left 1
        · simp only [List.getElem?_toArray, List.getElem?_cons_succ, List.getElem?_cons_zero]; rfl
        go_simp
        go_at_call 199
        go_must (refine Calls.mono (offeredState_block _) ?_)
        rintro e w2 ⟨rfl, hb⟩
        have HM2 := Lib.hid (HM.out.below ((Below.refl _ wr).drew.trans (hb.mono (by exact Nat.le_refl _))) rfl)
        have hbx2 := HM2.out.box.cell
        clear hb
        refine hK.out _ _ ?_ (fun hHeld => ?_)
        · try dsimp only
          go_keep
        clear hK K
        try simp only [Act.put, List.setIfInBounds_toArray, List.set_cons_zero, List.set_cons_succ]
        refine wpAnyH_take (i := 3) (oi := ?_) (v := ?_) ?_ (by kernel_rfl) (by kernel_rfl) (by kernel_rfl) ?_ ?_ (by assumption) ?_
        rotate_left 2
        · simp only [List.getElem?_toArray, List.getElem?_cons_succ, List.getElem?_cons_zero]; rfl
        · exact fun _ _ _ h => h
        · refine Or.inl ⟨?_, ?_⟩
          · rfl
          · intro w hSw; (try dsimp only at hSw); go_simp; exact bkq1 HE.out _
        try simp only [Act.put, List.setIfInBounds_toArray, List.set_cons_zero, List.set_cons_succ]
        refine wpAnyH_done (by kernel_rfl) ?_ _
        go_wp2_with fail
        go_roundw
        case rel => exact ⟨1 + 1, by omega, by first | rfl | go_num, Lib.hid (fun j hj => by
          by_cases e : j = 1
          · rw [e]; exact HE.out
          · exact HA.out j (by omega)), HM2.out⟩
        case measure => simp [intOf]
      · have HE := Lib.hid he
        clear he
        go_wp2_with fail
        refine wp_region_held_drew (S := (fun w' => w'.cell? ⟨w.heap.size, 0, none⟩ = some (.int .i64 n) ∧ w'.cell? ⟨w.heap.size, 1, none⟩ = some (.bool i) ∧ w'.cell? ⟨w.heap.size, 2, none⟩ = some (.bool o))) (by kernel_rfl) ?_ (fun hHeld => ?_)
        · try dsimp only
          go_keep
        refine wpAnyH_take (i := 0) (oi := ?_) (v := ?_) ?_ (by kernel_rfl) (by kernel_rfl) (by kernel_rfl) ?_ ?_ (by assumption) ?_
        rotate_left 2
        · simp only [List.getElem?_toArray, List.getElem?_cons_succ, List.getElem?_cons_zero]; rfl
        · exact fun _ _ _ h => h
        · first
            | (refine Or.inr ⟨?_, ?_⟩ <;> rfl)
            | (refine Or.inl ⟨?_, ?_⟩; · rfl
               intro w hSw; (try dsimp only at hSw); go_simp; (try with_reducible rfl); done)
        try simp only [Act.put, List.setIfInBounds_toArray, List.set_cons_zero, List.set_cons_succ]
        refine wpAnyH_take (i := 2) (oi := ?_) (v := ?_) ?_ (by kernel_rfl) (by kernel_rfl) (by kernel_rfl) ?_ ?_ (by assumption) ?_
        rotate_left 2
        · simp only [List.getElem?_toArray, List.getElem?_cons_succ, List.getElem?_cons_zero]; rfl
        · exact fun _ _ _ h => h
        · first
            | (refine Or.inr ⟨?_, ?_⟩ <;> rfl)
            | (refine Or.inl ⟨?_, ?_⟩; · rfl
               intro w hSw; (try dsimp only at hSw); go_simp; (try with_reducible rfl); done)
        try simp only [Act.put, List.setIfInBounds_toArray, List.set_cons_zero, List.set_cons_succ]
        refine wpAnyH_ready (rs := [1]) (by kernel_rfl) (by simp) ?_
        refine AllReadyH.cons (o := ?_) ?_ (fun K hK => ?_) AllReadyH.nil
        rotate_left 1
        · simp only [List.getElem?_toArray, List.getElem?_cons_succ, List.getElem?_cons_zero]; rfl
        go_simp
        go_at_call 199
        go_must (refine Calls.mono (offeredState_block _) ?_)
        rintro e w2 ⟨rfl, hb⟩
        have HM2 := Lib.hid (HM.out.below ((Below.refl _ wr).drew.trans (hb.mono (by exact Nat.le_refl _))) rfl)
        have hbx2 := HM2.out.box.cell
        clear hb
        refine hK.out _ _ ?_ (fun hHeld => ?_)
        · try dsimp only
          go_keep
        clear hK K
        try simp only [Act.put, List.setIfInBounds_toArray, List.set_cons_zero, List.set_cons_succ]
        refine wpAnyH_take (i := 3) (oi := ?_) (v := ?_) ?_ (by kernel_rfl) (by kernel_rfl) (by kernel_rfl) ?_ ?_ (by assumption) ?_
        rotate_left 2
        · simp only [List.getElem?_toArray, List.getElem?_cons_succ, List.getElem?_cons_zero]; rfl
        · exact fun _ _ _ h => h
        · refine Or.inl ⟨?_, ?_⟩
          · rfl
          · intro w hSw; (try dsimp only at hSw); go_simp; exact bkq1 HE.out _
        try simp only [Act.put, List.setIfInBounds_toArray, List.set_cons_zero, List.set_cons_succ]
        refine wpAnyH_done (by kernel_rfl) ?_ _
        go_wp2_with fail
        go_ret2
        exact ⟨by rw [stI_at (by omega) HE.out HA.out]; rfl, HM2.out.bl⟩
    · have hl0 : wr.cell? ⟨w.heap.size + 1, 2, none⟩ = some (.iface 135 (.agg #[])) := hlx 2
      have hme := fun (f : Nat) (w : World) => clearState_meth f w
      clear hlx
      cases he : bkE 2 n i o
      · have HE := Lib.hid he
        clear he
        go_wp2_with fail
        refine wp_region_held_drew (S := (fun w' => w'.cell? ⟨w.heap.size, 0, none⟩ = some (.int .i64 n) ∧ w'.cell? ⟨w.heap.size, 1, none⟩ = some (.bool i) ∧ w'.cell? ⟨w.heap.size, 2, none⟩ = some (.bool o))) (by kernel_rfl) ?_ (fun hHeld => ?_)
        · try dsimp only
          go_keep
        refine wpAnyH_take (i := 0) (oi := ?_) (v := ?_) ?_ (by kernel_rfl) (by kernel_rfl) (by kernel_rfl) ?_ ?_ (by assumption) ?_
        rotate_left 2
        · simp only [List.getElem?_toArray, List.getElem?_cons_succ, List.getElem?_cons_zero]; rfl
        · exact fun _ _ _ h => h
        · first
            | (refine Or.inr ⟨?_, ?_⟩ <;> rfl)
            | (refine Or.inl ⟨?_, ?_⟩; · rfl
               intro w hSw; (try dsimp only at hSw); go_simp; (try with_reducible rfl); done)
        try simp only [Act.put, List.setIfInBounds_toArray, List.set_cons_zero, List.set_cons_succ]
        refine wpAnyH_take (i := 2) (oi := ?_) (v := ?_) ?_ (by kernel_rfl) (by kernel_rfl) (by kernel_rfl) ?_ ?_ (by assumption) ?_
        rotate_left 2
        · simp only [List.getElem?_toArray, List.getElem?_cons_succ, List.getElem?_cons_zero]; rfl
        · exact fun _ _ _ h => h
        · first
            | (refine Or.inr ⟨?_, ?_⟩ <;> rfl)
            | (refine Or.inl ⟨?_, ?_⟩; · rfl
               intro w hSw; (try dsimp only at hSw); go_simp; (try with_reducible rfl); done)
        try simp only [Act.put, List.setIfInBounds_toArray, List.set_cons_zero, List.set_cons_succ]
        refine wpAnyH_ready (rs := [1]) (by kernel_rfl) (by simp) ?_
        refine AllReadyH.cons (o := ?_) ?_ (fun K hK => ?_) AllReadyH.nil
        rotate_left 1
        · simp only [List.getElem?_toArray, List.getElem?_cons_succ, List.getElem?_cons_zero]; rfl
        go_simp
        go_at_call 200
        go_must (refine Calls.mono (clearState_block _) ?_)
        rintro e w2 ⟨rfl, hb⟩
        have HM2 := Lib.hid (HM.out.below ((Below.refl _ wr).drew.trans (hb.mono (by exact Nat.le_refl _))) rfl)
        have hbx2 := HM2.out.box.cell
        clear hb
        refine hK.out _ _ ?_ (fun hHeld => ?_)
        · try dsimp only
          go_keep
        clear hK K
        try simp only [Act.put, List.setIfInBounds_toArray, List.set_cons_zero, List.set_cons_succ]
        refine wpAnyH_take (i := 3) (oi := ?_) (v := ?_) ?_ (by kernel_rfl) (by kernel_rfl) (by kernel_rfl) ?_ ?_ (by assumption) ?_
        rotate_left 2
        · simp only [List.getElem?_toArray, List.getElem?_cons_succ, List.getElem?_cons_zero]; rfl
        · exact fun _ _ _ h => h
        · refine Or.inl ⟨?_, ?_⟩
          · rfl
          · intro w hSw; (try dsimp only at hSw); go_simp; exact bkq2 HE.out _
        try simp only [Act.put, List.setIfInBounds_toArray, List.set_cons_zero, List.set_cons_succ]
        refine wpAnyH_done (by kernel_rfl) ?_ _
        go_wp2_with fail
        go_roundw
        case rel => exact ⟨2 + 1, by omega, by first | rfl | go_num, Lib.hid (fun j hj => by
          by_cases e : j = 2
          · rw [e]; exact HE.out
          · exact HA.out j (by omega)), HM2.out⟩
        case measure => simp [intOf]
      · have HE := Lib.hid he
        clear he
        go_wp2_with fail
        refine wp_region_held_drew (S := (fun w' => w'.cell? ⟨w.heap.size, 0, none⟩ = some (.int .i64 n) ∧ w'.cell? ⟨w.heap.size, 1, none⟩ = some (.bool i) ∧ w'.cell? ⟨w.heap.size, 2, none⟩ = some (.bool o))) (by kernel_rfl) ?_ (fun hHeld => ?_)
        · try dsimp only
          go_keep
        refine wpAnyH_take (i := 0) (oi := ?_) (v := ?_) ?_ (by kernel_rfl) (by kernel_rfl) (by kernel_rfl) ?_ ?_ (by assumption) ?_
        rotate_left 2
        · simp only [List.getElem?_toArray, List.getElem?_cons_succ, List.getElem?_cons_zero]; rfl
        · exact fun _ _ _ h => h
        · first
            | (refine Or.inr ⟨?_, ?_⟩ <;> rfl)
            | (refine Or.inl ⟨?_, ?_⟩; · rfl
               intro w hSw; (try dsimp only at hSw); go_simp; (try with_reducible rfl); done)
        try simp only [Act.put, List.setIfInBounds_toArray, List.set_cons_zero, List.set_cons_succ]
        refine wpAnyH_take (i := 2) (oi := ?_) (v := ?_) ?_ (by kernel_rfl) (by kernel_rfl) (by kernel_rfl) ?_ ?_ (by assumption) ?_
        rotate_left 2
        · simp only [List.getElem?_toArray, List.getElem?_cons_succ, List.getElem?_cons_zero]; rfl
        · exact fun _ _ _ h => h
        · first
            | (refine Or.inr ⟨?_, ?_⟩ <;> rfl)
            | (refine Or.inl ⟨?_, ?_⟩; · rfl
               intro w hSw; (try dsimp only at hSw); go_simp; (try with_reducible rfl); done)
        try simp only [Act.put, List.setIfInBounds_toArray, List.set_cons_zero, List.set_cons_succ]
        refine wpAnyH_ready (rs := [1]) (by kernel_rfl) (by simp) ?_
        refine AllReadyH.cons (o := ?_) ?_ (fun K hK => ?_) AllReadyH.nil
        rotate_left 1
        · simp only [List.getElem?_toArray, List.getElem?_cons_succ, List.getElem?_cons_zero]; rfl
        go_simp
        go_at_call 200
        go_must (refine Calls.mono (clearState_block _) ?_)
        rintro e w2 ⟨rfl, hb⟩
        have HM2 := Lib.hid (HM.out.below ((Below.refl _ wr).drew.trans (hb.mono (by exact Nat.le_refl _))) rfl)
        have hbx2 := HM2.out.box.cell
        clear hb
        refine hK.out _ _ ?_ (fun hHeld => ?_)
        · try dsimp only
          go_keep
        clear hK K
        try simp only [Act.put, List.setIfInBounds_toArray, List.set_cons_zero, List.set_cons_succ]
        refine wpAnyH_take (i := 3) (oi := ?_) (v := ?_) ?_ (by kernel_rfl) (by kernel_rfl) (by kernel_rfl) ?_ ?_ (by assumption) ?_
        rotate_left 2
        · simp only [List.getElem?_toArray, List.getElem?_cons_succ, List.getElem?_cons_zero]; rfl
        · exact fun _ _ _ h => h
        · refine Or.inl ⟨?_, ?_⟩
          · rfl
          · intro w hSw; (try dsimp only at hSw); go_simp; exact bkq2 HE.out _
        try simp only [Act.put, List.setIfInBounds_toArray, List.set_cons_zero, List.set_cons_succ]
        refine wpAnyH_done (by kernel_rfl) ?_ _
        go_wp2_with fail
        go_ret2
        exact ⟨by rw [stI_at (by omega) HE.out HA.out]; rfl, HM2.out.bl⟩
    · have hl0 : wr.cell? ⟨w.heap.size + 1, 3, none⟩ = some (.iface 136 (.agg #[])) := hlx 3
      have hme := fun (f : Nat) (w : World) => insideState_meth f w
      clear hlx
      cases he : bkE 3 n i o
      · have HE := Lib.hid he
        clear he
        go_wp2_with fail
        refine wp_region_held_drew (S := (fun w' => w'.cell? ⟨w.heap.size, 0, none⟩ = some (.int .i64 n) ∧ w'.cell? ⟨w.heap.size, 1, none⟩ = some (.bool i) ∧ w'.cell? ⟨w.heap.size, 2, none⟩ = some (.bool o))) (by kernel_rfl) ?_ (fun hHeld => ?_)
        · try dsimp only
          go_keep
        refine wpAnyH_take (i := 0) (oi := ?_) (v := ?_) ?_ (by kernel_rfl) (by kernel_rfl) (by kernel_rfl) ?_ ?_ (by assumption) ?_
        rotate_left 2
        · simp only [List.getElem?_toArray, List.getElem?_cons_succ, List.getElem?_cons_zero]; rfl
        · exact fun _ _ _ h => h
        · first
            | (refine Or.inr ⟨?_, ?_⟩ <;> rfl)
            | (refine Or.inl ⟨?_, ?_⟩; · rfl
               intro w hSw; (try dsimp only at hSw); go_simp; (try with_reducible rfl); done)
        try simp only [Act.put, List.setIfInBounds_toArray, List.set_cons_zero, List.set_cons_succ]
        refine wpAnyH_take (i := 2) (oi := ?_) (v := ?_) ?_ (by kernel_rfl) (by kernel_rfl) (by kernel_rfl) ?_ ?_ (by assumption) ?_
        rotate_left 2
        · simp only [List.getElem?_toArray, List.getElem?_cons_succ, List.getElem?_cons_zero]; rfl
        · exact fun _ _ _ h => h
        · first
            | (refine Or.inr ⟨?_, ?_⟩ <;> rfl)
            | (refine Or.inl ⟨?_, ?_⟩; · rfl
               intro w hSw; (try dsimp only at hSw); go_simp; (try with_reducible rfl); done)
        try simp only [Act.put, List.setIfInBounds_toArray, List.set_cons_zero, List.set_cons_succ]
        refine wpAnyH_ready (rs := [1]) (by kernel_rfl) (by simp) ?_
        refine AllReadyH.cons (o := ?_) ?_ (fun K hK => ?_) AllReadyH.nil
        rotate_left 1
        · simp only [List.getElem?_toArray, List.getElem?_cons_succ, List.getElem?_cons_zero]; rfl
        go_simp
        go_at_call 201
        go_must (refine Calls.mono (insideState_block _) ?_)
        rintro e w2 ⟨rfl, hb⟩
        have HM2 := Lib.hid (HM.out.below ((Below.refl _ wr).drew.trans (hb.mono (by exact Nat.le_refl _))) rfl)
        have hbx2 := HM2.out.box.cell
        clear hb
        refine hK.out _ _ ?_ (fun hHeld => ?_)
        · try dsimp only
          go_keep
        clear hK K
        try simp only [Act.put, List.setIfInBounds_toArray, List.set_cons_zero, List.set_cons_succ]
        refine wpAnyH_take (i := 3) (oi := ?_) (v := ?_) ?_ (by kernel_rfl) (by kernel_rfl) (by kernel_rfl) ?_ ?_ (by assumption) ?_
        rotate_left 2
        · simp only [List.getElem?_toArray, List.getElem?_cons_succ, List.getElem?_cons_zero]; rfl
        · exact fun _ _ _ h => h
        · refine Or.inl ⟨?_, ?_⟩
          · rfl
          · intro w hSw; (try dsimp only at hSw); go_simp; exact bkq3 HE.out _
        try simp only [Act.put, List.setIfInBounds_toArray, List.set_cons_zero, List.set_cons_succ]
        refine wpAnyH_done (by kernel_rfl) ?_ _
        go_wp2_with fail
        go_roundw
        case rel => exact ⟨3 + 1, by omega, by first | rfl | go_num, Lib.hid (fun j hj => by
          by_cases e : j = 3
          · rw [e]; exact HE.out
          · exact HA.out j (by omega)), HM2.out⟩
        case measure => simp [intOf]
      · have HE := Lib.hid he
        clear he
        go_wp2_with fail
        refine wp_region_held_drew (S := (fun w' => w'.cell? ⟨w.heap.size, 0, none⟩ = some (.int .i64 n) ∧ w'.cell? ⟨w.heap.size, 1, none⟩ = some (.bool i) ∧ w'.cell? ⟨w.heap.size, 2, none⟩ = some (.bool o))) (by kernel_rfl) ?_ (fun hHeld => ?_)
        · try dsimp only
          go_keep
        refine wpAnyH_take (i := 0) (oi := ?_) (v := ?_) ?_ (by kernel_rfl) (by kernel_rfl) (by kernel_rfl) ?_ ?_ (by assumption) ?_
        rotate_left 2
        · simp only [List.getElem?_toArray, List.getElem?_cons_succ, List.getElem?_cons_zero]; rfl
        · exact fun _ _ _ h => h
        · first
            | (refine Or.inr ⟨?_, ?_⟩ <;> rfl)
            | (refine Or.inl ⟨?_, ?_⟩; · rfl
               intro w hSw; (try dsimp only at hSw); go_simp; (try with_reducible rfl); done)
        try simp only [Act.put, List.setIfInBounds_toArray, List.set_cons_zero, List.set_cons_succ]
        refine wpAnyH_take (i := 2) (oi := ?_) (v := ?_) ?_ (by kernel_rfl) (by kernel_rfl) (by kernel_rfl) ?_ ?_ (by assumption) ?_
        rotate_left 2
        · simp only [List.getElem?_toArray, List.getElem?_cons_succ, List.getElem?_cons_zero]; rfl
        · exact fun _ _ _ h => h
        · first
            | (refine Or.inr ⟨?_, ?_⟩ <;> rfl)
            | (refine Or.inl ⟨?_, ?_⟩; · rfl
               intro w hSw; (try dsimp only at hSw); go_simp; (try with_reducible rfl); done)
        try simp only [Act.put, List.setIfInBounds_toArray, List.set_cons_zero, List.set_cons_succ]
        refine wpAnyH_ready (rs := [1]) (by kernel_rfl) (by simp) ?_
        refine AllReadyH.cons (o := ?_) ?_ (fun K hK => ?_) AllReadyH.nil
        rotate_left 1
        · simp only [List.getElem?_toArray, List.getElem?_cons_succ, List.getElem?_cons_zero]; rfl
        go_simp
        go_at_call 201
        go_must (refine Calls.mono (insideState_block _) ?_)
        rintro e w2 ⟨rfl, hb⟩
        have HM2 := Lib.hid (HM.out.below ((Below.refl _ wr).drew.trans (hb.mono (by exact Nat.le_refl _))) rfl)
        have hbx2 := HM2.out.box.cell
        clear hb
        refine hK.out _ _ ?_ (fun hHeld => ?_)
        · try dsimp only
          go_keep
        clear hK K
        try simp only [Act.put, List.setIfInBounds_toArray, List.set_cons_zero, List.set_cons_succ]
        refine wpAnyH_take (i := 3) (oi := ?_) (v := ?_) ?_ (by kernel_rfl) (by kernel_rfl) (by kernel_rfl) ?_ ?_ (by assumption) ?_
        rotate_left 2
        · simp only [List.getElem?_toArray, List.getElem?_cons_succ, List.getElem?_cons_zero]; rfl
        · exact fun _ _ _ h => h
        · refine Or.inl ⟨?_, ?_⟩
          · rfl
          · intro w hSw; (try dsimp only at hSw); go_simp; exact bkq3 HE.out _
        try simp only [Act.put, List.setIfInBounds_toArray, List.set_cons_zero, List.set_cons_succ]
        refine wpAnyH_done (by kernel_rfl) ?_ _
        go_wp2_with fail
        go_ret2
        exact ⟨by rw [stI_at (by omega) HE.out HA.out]; rfl, HM2.out.bl⟩
    · have hl0 : wr.cell? ⟨w.heap.size + 1, 4, none⟩ = some (.iface 137 (.agg #[])) := hlx 4
      have hme := fun (f : Nat) (w : World) => passedState_meth f w
      clear hlx
      cases he : bkE 4 n i o
      · have HE := Lib.hid he
        clear he
        go_wp2_with fail
        refine wp_region_held_drew (S := (fun w' => w'.cell? ⟨w.heap.size, 0, none⟩ = some (.int .i64 n) ∧ w'.cell? ⟨w.heap.size, 1, none⟩ = some (.bool i) ∧ w'.cell? ⟨w.heap.size, 2, none⟩ = some (.bool o))) (by kernel_rfl) ?_ (fun hHeld => ?_)
        · try dsimp only
          go_keep
        refine wpAnyH_take (i := 0) (oi := ?_) (v := ?_) ?_ (by kernel_rfl) (by kernel_rfl) (by kernel_rfl) ?_ ?_ (by assumption) ?_
        rotate_left 2
        · simp only [List.getElem?_toArray, List.getElem?_cons_succ, List.getElem?_cons_zero]; rfl
        · exact fun _ _ _ h => h
        · first
            | (refine Or.inr ⟨?_, ?_⟩ <;> rfl)
            | (refine Or.inl ⟨?_, ?_⟩; · rfl
               intro w hSw; (try dsimp only at hSw); go_simp; (try with_reducible rfl); done)
        try simp only [Act.put, List.setIfInBounds_toArray, List.set_cons_zero, List.set_cons_succ]
        refine wpAnyH_take (i := 2) (oi := ?_) (v := ?_) ?_ (by kernel_rfl) (by kernel_rfl) (by kernel_rfl) ?_ ?_ (by assumption) ?_
        rotate_left 2
        · simp only [List.getElem?_toArray, List.getElem?_cons_succ, List.getElem?_cons_zero]; rfl
        · exact fun _ _ _ h => h
        · first
            | (refine Or.inr ⟨?_, ?_⟩ <;> rfl)
            | (refine Or.inl ⟨?_, ?_⟩; · rfl
               intro w hSw; (try dsimp only at hSw); go_simp; (try with_reducible rfl); done)
        try simp only [Act.put, List.setIfInBounds_toArray, List.set_cons_zero, List.set_cons_succ]
        refine wpAnyH_ready (rs := [1]) (by kernel_rfl) (by simp) ?_
        refine AllReadyH.cons (o := ?_) ?_ (fun K hK => ?_) AllReadyH.nil
        rotate_left 1
        · simp only [List.getElem?_toArray, List.getElem?_cons_succ, List.getElem?_cons_zero]; rfl
        go_simp
        go_at_call 202
        go_must (refine Calls.mono (passedState_block _) ?_)
        rintro e w2 ⟨rfl, hb⟩
        have HM2 := Lib.hid (HM.out.below ((Below.refl _ wr).drew.trans (hb.mono (by exact Nat.le_refl _))) rfl)
        have hbx2 := HM2.out.box.cell
        clear hb
        refine hK.out _ _ ?_ (fun hHeld => ?_)
        · try dsimp only
          go_keep
        clear hK K
        try simp only [Act.put, List.setIfInBounds_toArray, List.set_cons_zero, List.set_cons_succ]
        refine wpAnyH_take (i := 3) (oi := ?_) (v := ?_) ?_ (by kernel_rfl) (by kernel_rfl) (by kernel_rfl) ?_ ?_ (by assumption) ?_
        rotate_left 2
        · simp only [List.getElem?_toArray, List.getElem?_cons_succ, List.getElem?_cons_zero]; rfl
        · exact fun _ _ _ h => h
        · refine Or.inl ⟨?_, ?_⟩
          · rfl
          · intro w hSw; (try dsimp only at hSw); go_simp; exact bkq4 HE.out _
        try simp only [Act.put, List.setIfInBounds_toArray, List.set_cons_zero, List.set_cons_succ]
        refine wpAnyH_done (by kernel_rfl) ?_ _
        go_wp2_with fail
        go_roundw
        case rel => exact ⟨4 + 1, by omega, by first | rfl | go_num, Lib.hid (fun j hj => by
          by_cases e : j = 4
          · rw [e]; exact HE.out
          · exact HA.out j (by omega)), HM2.out⟩
        case measure => simp [intOf]
      · have HE := Lib.hid he
        clear he
        go_wp2_with fail
        refine wp_region_held_drew (S := (fun w' => w'.cell? ⟨w.heap.size, 0, none⟩ = some (.int .i64 n) ∧ w'.cell? ⟨w.heap.size, 1, none⟩ = some (.bool i) ∧ w'.cell? ⟨w.heap.size, 2, none⟩ = some (.bool o))) (by kernel_rfl) ?_ (fun hHeld => ?_)
        · try dsimp only
          go_keep
        refine wpAnyH_take (i := 0) (oi := ?_) (v := ?_) ?_ (by kernel_rfl) (by kernel_rfl) (by kernel_rfl) ?_ ?_ (by assumption) ?_
        rotate_left 2
        · simp only [List.getElem?_toArray, List.getElem?_cons_succ, List.getElem?_cons_zero]; rfl
        · exact fun _ _ _ h => h
        · first
            | (refine Or.inr ⟨?_, ?_⟩ <;> rfl)
            | (refine Or.inl ⟨?_, ?_⟩; · rfl
               intro w hSw; (try dsimp only at hSw); go_simp; (try with_reducible rfl); done)
        try simp only [Act.put, List.setIfInBounds_toArray, List.set_cons_zero, List.set_cons_succ]
        refine wpAnyH_take (i := 2) (oi := ?_) (v := ?_) ?_ (by kernel_rfl) (by kernel_rfl) (by kernel_rfl) ?_ ?_ (by assumption) ?_
        rotate_left 2
        · simp only [List.getElem?_toArray, List.getElem?_cons_succ, List.getElem?_cons_zero]; rfl
        · exact fun _ _ _ h => h
        · first
            | (refine Or.inr ⟨?_, ?_⟩ <;> rfl)
            | (refine Or.inl ⟨?_, ?_⟩; · rfl
               intro w hSw; (try dsimp only at hSw); go_simp; (try with_reducible rfl); done)
        try simp only [Act.put, List.setIfInBounds_toArray, List.set_cons_zero, List.set_cons_succ]
        refine wpAnyH_ready (rs := [1]) (by kernel_rfl) (by simp) ?_
        refine AllReadyH.cons (o := ?_) ?_ (fun K hK => ?_) AllReadyH.nil
        rotate_left 1
        · simp only [List.getElem?_toArray, List.getElem?_cons_succ, List.getElem?_cons_zero]; rfl
        go_simp
        go_at_call 202
        go_must (refine Calls.mono (passedState_block _) ?_)
        rintro e w2 ⟨rfl, hb⟩
        have HM2 := Lib.hid (HM.out.below ((Below.refl _ wr).drew.trans (hb.mono (by exact Nat.le_refl _))) rfl)
        have hbx2 := HM2.out.box.cell
        clear hb
        refine hK.out _ _ ?_ (fun hHeld => ?_)
        · try dsimp only
          go_keep
        clear hK K
        try simp only [Act.put, List.setIfInBounds_toArray, List.set_cons_zero, List.set_cons_succ]
        refine wpAnyH_take (i := 3) (oi := ?_) (v := ?_) ?_ (by kernel_rfl) (by kernel_rfl) (by kernel_rfl) ?_ ?_ (by assumption) ?_
        rotate_left 2
        · simp only [List.getElem?_toArray, List.getElem?_cons_succ, List.getElem?_cons_zero]; rfl
        · exact fun _ _ _ h => h
        · refine Or.inl ⟨?_, ?_⟩
          · rfl
          · intro w hSw; (try dsimp only at hSw); go_simp; exact bkq4 HE.out _
        try simp only [Act.put, List.setIfInBounds_toArray, List.set_cons_zero, List.set_cons_succ]
        refine wpAnyH_done (by kernel_rfl) ?_ _
        go_wp2_with fail
        go_ret2
        exact ⟨by rw [stI_at (by omega) HE.out HA.out]; rfl, HM2.out.bl⟩
    · have HN := Lib.hid (stI_no HA.out)
      go_wp2_with fail
      go_ret2
      exact ⟨by rw [HN.out]; rfl, HM.out.bl⟩
end Go.Proofs.YtlkdmpfifpkpaaaGreatDoor
namespace Go.Proofs.YtlkdmpfifpkpaaaGreatDoor
open Go.RowKit

/-- the state behind a letter; 5 where it cannot be -/
def nx (k : Nat) (c : Int) : Nat :=
  match k with
  | 0 => if c = 111 then 1 else 5
  | 1 => if c = 114 then 0 else if c = 97 then 2 else 5
  | 2 => if c = 99 then 0 else if c = 101 then 3 else 5
  | 3 => if c = 108 then 4 else 5
  | 4 => if c = 102 then 0 else 5
  | _ => 5
theorem nx_le : ∀ (k : Nat) (c : Int), nx k c ≤ 5
  | 0, c => by simp only [nx]; split <;> omega
  | 1, c => by simp only [nx]; split <;> (try split) <;> omega
  | 2, c => by simp only [nx]; split <;> (try split) <;> omega
  | 3, c => by simp only [nx]; split <;> omega
  | 4, c => by simp only [nx]; split <;> omega
  | k + 5, c => by simp [nx]
def sbV (k : Nat) (c : Int) : Value := if nx k c < 5 then ifV (nx k c) else ifV k
theorem ta00 (w : World) : (Instr.typeAssert (.iface 133 (.agg #[])) 103 133 true).run Tryz.prog w = .ok (.tuple #[.agg #[], .bool true]) w := by kernel_rfl
theorem ta10 (w : World) : (Instr.typeAssert (.iface 134 (.agg #[])) 103 133 true).run Tryz.prog w = .ok (.tuple #[.agg #[], .bool false]) w := by kernel_rfl
theorem ta11 (w : World) : (Instr.typeAssert (.iface 134 (.agg #[])) 103 134 true).run Tryz.prog w = .ok (.tuple #[.agg #[], .bool true]) w := by kernel_rfl
theorem ta20 (w : World) : (Instr.typeAssert (.iface 135 (.agg #[])) 103 133 true).run Tryz.prog w = .ok (.tuple #[.agg #[], .bool false]) w := by kernel_rfl
theorem ta21 (w : World) : (Instr.typeAssert (.iface 135 (.agg #[])) 103 134 true).run Tryz.prog w = .ok (.tuple #[.agg #[], .bool false]) w := by kernel_rfl
theorem ta22 (w : World) : (Instr.typeAssert (.iface 135 (.agg #[])) 103 135 true).run Tryz.prog w = .ok (.tuple #[.agg #[], .bool true]) w := by kernel_rfl
theorem ta30 (w : World) : (Instr.typeAssert (.iface 136 (.agg #[])) 103 133 true).run Tryz.prog w = .ok (.tuple #[.agg #[], .bool false]) w := by kernel_rfl
theorem ta31 (w : World) : (Instr.typeAssert (.iface 136 (.agg #[])) 103 134 true).run Tryz.prog w = .ok (.tuple #[.agg #[], .bool false]) w := by kernel_rfl
theorem ta32 (w : World) : (Instr.typeAssert (.iface 136 (.agg #[])) 103 135 true).run Tryz.prog w = .ok (.tuple #[.agg #[], .bool false]) w := by kernel_rfl
theorem ta33 (w : World) : (Instr.typeAssert (.iface 136 (.agg #[])) 103 136 true).run Tryz.prog w = .ok (.tuple #[.agg #[], .bool true]) w := by kernel_rfl
theorem ta40 (w : World) : (Instr.typeAssert (.iface 137 (.agg #[])) 103 133 true).run Tryz.prog w = .ok (.tuple #[.agg #[], .bool false]) w := by kernel_rfl
theorem ta41 (w : World) : (Instr.typeAssert (.iface 137 (.agg #[])) 103 134 true).run Tryz.prog w = .ok (.tuple #[.agg #[], .bool false]) w := by kernel_rfl
theorem ta42 (w : World) : (Instr.typeAssert (.iface 137 (.agg #[])) 103 135 true).run Tryz.prog w = .ok (.tuple #[.agg #[], .bool false]) w := by kernel_rfl
theorem ta43 (w : World) : (Instr.typeAssert (.iface 137 (.agg #[])) 103 136 true).run Tryz.prog w = .ok (.tuple #[.agg #[], .bool false]) w := by kernel_rfl
theorem ta44 (w : World) : (Instr.typeAssert (.iface 137 (.agg #[])) 103 137 true).run Tryz.prog w = .ok (.tuple #[.agg #[], .bool true]) w := by kernel_rfl
set_option maxRecDepth 100000 in
set_option maxHeartbeats 2000000 in
theorem stateBehind_any (k : Nat) (c : Int) (w : World) (hk : k < 5) :
    Calls Tryz.prog 67 #[ifV k, .int .u8 c] w fun e w' => e = .returned (.tuple #[sbV k c, .bool (decide (nx k c < 5))]) ∧ w = w' := by
  have h5 : k = 0 ∨ k = 1 ∨ k = 2 ∨ k = 3 ∨ k = 4 := by omega
  rcases h5 with rfl | rfl | rfl | rfl | rfl
  · show Calls Tryz.prog 67 #[.iface 133 (.agg #[]), .int .u8 c] w _
    have t0 := ta00
    by_cases hc : c = 111
    · have HV : Hid (sbV 0 c = ifV 1 ∧ nx 0 c = 1) := by
        have e : nx 0 c = 1 := by simp [nx, hc]
        exact ⟨by unfold sbV; rw [e]; rfl, e⟩
      have g1 : (c == 111) = true := by simp [hc]
      clear hc
      go_enter Tryz.func67, Tryz.ntmps67
      go_wp2_with fail
      go_ret2
      exact ⟨by rw [HV.out.1, HV.out.2]; rfl, rfl⟩
    · have HV : Hid (sbV 0 c = ifV 0 ∧ nx 0 c = 5) := by
        have e : nx 0 c = 5 := by simp [nx, hc]
        exact ⟨by unfold sbV; rw [e]; rfl, e⟩
      have g1 : (c == 111) = false := by simp [hc]
      clear hc
      go_enter Tryz.func67, Tryz.ntmps67
      go_wp2_with fail
      go_ret2
      exact ⟨by rw [HV.out.1, HV.out.2]; rfl, rfl⟩
  · show Calls Tryz.prog 67 #[.iface 134 (.agg #[]), .int .u8 c] w _
    have t0 := ta10
    have t1 := ta11
    by_cases hc : c = 114
    · have HV : Hid (sbV 1 c = ifV 0 ∧ nx 1 c = 0) := by
        have e : nx 1 c = 0 := by simp [nx, hc]
        exact ⟨by unfold sbV; rw [e]; rfl, e⟩
      have g1 : (c == 114) = true := by simp [hc]
      clear hc
      go_enter Tryz.func67, Tryz.ntmps67
      go_wp2_with fail
      go_ret2
      exact ⟨by rw [HV.out.1, HV.out.2]; rfl, rfl⟩
    have g0 : (c == 114) = false := by simp [hc]
    have hc0 := hc
    by_cases hc : c = 97
    · have HV : Hid (sbV 1 c = ifV 2 ∧ nx 1 c = 2) := by
        have e : nx 1 c = 2 := by simp [nx, hc]
        exact ⟨by unfold sbV; rw [e]; rfl, e⟩
      have g1 : (c == 97) = true := by simp [hc]
      clear hc hc0
      go_enter Tryz.func67, Tryz.ntmps67
      go_wp2_with fail
      go_ret2
      exact ⟨by rw [HV.out.1, HV.out.2]; rfl, rfl⟩
    · have HV : Hid (sbV 1 c = ifV 1 ∧ nx 1 c = 5) := by
        have e : nx 1 c = 5 := by simp [nx, hc, hc0]
        exact ⟨by unfold sbV; rw [e]; rfl, e⟩
      have g1 : (c == 97) = false := by simp [hc]
      clear hc hc0
      go_enter Tryz.func67, Tryz.ntmps67
      go_wp2_with fail
      go_ret2
      exact ⟨by rw [HV.out.1, HV.out.2]; rfl, rfl⟩
  · show Calls Tryz.prog 67 #[.iface 135 (.agg #[]), .int .u8 c] w _
    have t0 := ta20
    have t1 := ta21
    have t2 := ta22
    by_cases hc : c = 99
    · have HV : Hid (sbV 2 c = ifV 0 ∧ nx 2 c = 0) := by
        have e : nx 2 c = 0 := by simp [nx, hc]
        exact ⟨by unfold sbV; rw [e]; rfl, e⟩
      have g1 : (c == 99) = true := by simp [hc]
      clear hc
      go_enter Tryz.func67, Tryz.ntmps67
      go_wp2_with fail
      go_ret2
      exact ⟨by rw [HV.out.1, HV.out.2]; rfl, rfl⟩
    have g0 : (c == 99) = false := by simp [hc]
    have hc0 := hc
    by_cases hc : c = 101
    · have HV : Hid (sbV 2 c = ifV 3 ∧ nx 2 c = 3) := by
        have e : nx 2 c = 3 := by simp [nx, hc]
        exact ⟨by unfold sbV; rw [e]; rfl, e⟩
      have g1 : (c == 101) = true := by simp [hc]
      clear hc hc0
      go_enter Tryz.func67, Tryz.ntmps67
      go_wp2_with fail
      go_ret2
      exact ⟨by rw [HV.out.1, HV.out.2]; rfl, rfl⟩
    · have HV : Hid (sbV 2 c = ifV 2 ∧ nx 2 c = 5) := by
        have e : nx 2 c = 5 := by simp [nx, hc, hc0]
        exact ⟨by unfold sbV; rw [e]; rfl, e⟩
      have g1 : (c == 101) = false := by simp [hc]
      clear hc hc0
      go_enter Tryz.func67, Tryz.ntmps67
      go_wp2_with fail
      go_ret2
      exact ⟨by rw [HV.out.1, HV.out.2]; rfl, rfl⟩
  · show Calls Tryz.prog 67 #[.iface 136 (.agg #[]), .int .u8 c] w _
    have t0 := ta30
    have t1 := ta31
    have t2 := ta32
    have t3 := ta33
    by_cases hc : c = 108
    · have HV : Hid (sbV 3 c = ifV 4 ∧ nx 3 c = 4) := by
        have e : nx 3 c = 4 := by simp [nx, hc]
        exact ⟨by unfold sbV; rw [e]; rfl, e⟩
      have g1 : (c == 108) = true := by simp [hc]
      clear hc
      go_enter Tryz.func67, Tryz.ntmps67
      go_wp2_with fail
      go_ret2
      exact ⟨by rw [HV.out.1, HV.out.2]; rfl, rfl⟩
    · have HV : Hid (sbV 3 c = ifV 3 ∧ nx 3 c = 5) := by
        have e : nx 3 c = 5 := by simp [nx, hc]
        exact ⟨by unfold sbV; rw [e]; rfl, e⟩
      have g1 : (c == 108) = false := by simp [hc]
      clear hc
      go_enter Tryz.func67, Tryz.ntmps67
      go_wp2_with fail
      go_ret2
      exact ⟨by rw [HV.out.1, HV.out.2]; rfl, rfl⟩
  · show Calls Tryz.prog 67 #[.iface 137 (.agg #[]), .int .u8 c] w _
    have t0 := ta40
    have t1 := ta41
    have t2 := ta42
    have t3 := ta43
    have t4 := ta44
    by_cases hc : c = 102
    · have HV : Hid (sbV 4 c = ifV 0 ∧ nx 4 c = 0) := by
        have e : nx 4 c = 0 := by simp [nx, hc]
        exact ⟨by unfold sbV; rw [e]; rfl, e⟩
      have g1 : (c == 102) = true := by simp [hc]
      clear hc
      go_enter Tryz.func67, Tryz.ntmps67
      go_wp2_with fail
      go_ret2
      exact ⟨by rw [HV.out.1, HV.out.2]; rfl, rfl⟩
    · have HV : Hid (sbV 4 c = ifV 4 ∧ nx 4 c = 5) := by
        have e : nx 4 c = 5 := by simp [nx, hc]
        exact ⟨by unfold sbV; rw [e]; rfl, e⟩
      have g1 : (c == 102) = false := by simp [hc]
      clear hc
      go_enter Tryz.func67, Tryz.ntmps67
      go_wp2_with fail
      go_ret2
      exact ⟨by rw [HV.out.1, HV.out.2]; rfl, rfl⟩
theorem inV_at {k : Nat} (h : k < 5) : inV k = ifV k := if_pos h
theorem possible_any (n : Int) (i o : Bool) (w : World) :
    Calls Tryz.prog 172 #[.agg #[.int .i64 n, .bool i, .bool o]] w fun e w' => e = .returned (.bool (decide (stI n i o < 5))) ∧ Below w.heap.size w w' := by
  have HBB : Hid (∀ a, Below w.heap.size w (w.alloc a)) := fun a => below_all _ _
  go_enter Tryz.func172, Tryz.ntmps172
  go_wp2_with fail
  refine (instr_any n i o _).mono ?_
  rintro e w1 ⟨rfl, hb⟩
  have HB1 := Lib.hid ((HBB.out _).trans (hb.mono (by simp)))
  clear hb
  go_wp2_with fail
  go_ret
  exact ⟨rfl, HB1.out⟩
/-- the byte at a place -/
def bt (s : ByteArray) (k : Nat) : Int := if h : k < s.size then (s[k].toNat : Int) else 0
theorem bt_at {s : ByteArray} {k : Nat} (h : k < s.size) : (s[k].toNat : Int) = bt s k := by simp [bt, h]
/-- the state behind a block and a text of one letter; 5 where there is none -/
def bsI (n : Int) (i o : Bool) (s : ByteArray) : Nat := if s.size = 1 then nx (stI n i o) (bt s 0) else 5
end Go.Proofs.YtlkdmpfifpkpaaaGreatDoor
namespace Go.Proofs.YtlkdmpfifpkpaaaGreatDoor
open Go.RowKit

/-- the value of digits -/
def dgV (l : List UInt8) : Int := l.foldl (fun a c => 10 * a + ((c.toNat : Int) - 48)) 0
def dgB (c : UInt8) : Bool := decide (48 ≤ c.toNat) && decide (c.toNat ≤ 57)
/-- the number that a word is -/
def nmL (l : List UInt8) : Int := if 1 ≤ l.length ∧ l.length ≤ 4 ∧ l.all dgB = true then dgV l else 9999
def nmF (t : ByteArray) : Int := nmL t.data.toList
theorem dgV_snoc (l : List UInt8) (c : UInt8) : dgV (l ++ [c]) = 10 * dgV l + ((c.toNat : Int) - 48) := by
  unfold dgV
  rw [List.foldl_append]
  rfl
theorem dgB_true {c : UInt8} : dgB c = true ↔ 48 ≤ c.toNat ∧ c.toNat ≤ 57 := by unfold dgB; rw [Bool.and_eq_true, decide_eq_true_eq, decide_eq_true_eq]
theorem dgV_bd : ∀ (n : Nat) (l : List UInt8), l.length ≤ n → l.all dgB = true → 0 ≤ dgV l ∧ dgV l < 10 ^ n := by
  intro n
  induction n with
  | zero =>
    intro l h _
    obtain rfl : l = [] := List.length_eq_zero_iff.1 (by omega)
    decide
  | succ n ih =>
    intro l h hd
    rcases List.eq_nil_or_concat l with rfl | ⟨l', c, rfl⟩
    · have : (0 : Int) < 10 ^ (n + 1) := Int.pow_pos (by omega)
      exact ⟨Int.le_refl _, this⟩
    · rw [List.concat_eq_append] at h hd ⊢
      rw [List.all_append, Bool.and_eq_true] at hd
      have h1 := ih l' (by simp at h; omega) hd.1
      have h2 : dgB c = true := by simpa using hd.2
      have h3 := dgB_true.1 h2
      rw [dgV_snoc, Int.pow_succ]
      omega
theorem nmF_bd (t : ByteArray) : 0 ≤ nmF t ∧ nmF t ≤ 9999 := by
  unfold nmF nmL
  split
  · rename_i h
    have := dgV_bd 4 _ h.2.1 h.2.2
    omega
  · omega
theorem all_take {l : List UInt8} {k : Nat} (hk : k < l.length) : (l.take (k + 1)).all dgB = ((l.take k).all dgB && dgB l[k]) := by
  rw [List.take_succ_eq_append_getElem hk, List.all_append]
  simp
theorem all_stop {l : List UInt8} {k : Nat} (hk : k < l.length) (h : dgB l[k] = false) : l.all dgB = false := by
  cases e : l.all dgB
  · rfl
  · have := List.all_eq_true.1 e _ (List.getElem_mem hk)
    rw [h] at this
    cases this
set_option linter.unusedSimpArgs false in
set_option maxRecDepth 100000 in
set_option maxHeartbeats 2000000 in
theorem numberOf_any (t : ByteArray) (w : World) :
    Calls Tryz.prog 120 #[.string t] w fun e w' => e = .returned (.int .i64 (nmF t)) ∧ w = w' := by
  have HSZ : Hid (t.data.toList.length = t.size) := by show _ = _; simp
  go_enter Tryz.func120, Tryz.ntmps120
  by_cases h0 : t.size = 0
  · have HV : Hid (nmF t = 9999) := if_neg (fun h => by have := HSZ.out; omega)
    have hb : ((t.size : Int) == 0) = true := beq_iff_eq.2 (by omega)
    clear h0
    go_wp2_with fail
    go_ret
    exact ⟨by rw [HV.out]; rfl, rfl⟩
  have hb : ((t.size : Int) == 0) = false := beq_eq_false_iff_ne.2 (by omega)
  by_cases h4 : 4 < t.size
  · have HV : Hid (nmF t = 9999) := if_neg (fun h => by have := HSZ.out; omega)
    have h4i : (4 : Int) < (t.size : Int) := by omega
    clear h0
    go_wp2_with fail
    go_ret
    exact ⟨by rw [HV.out]; rfl, rfl⟩
  have h4i : ¬ (4 : Int) < (t.size : Int) := by omega
  go_wp2_with fail
  go_loopw [3, 4, 15] (fun n _ i wr => ∃ k : Nat, k ≤ t.size ∧ i = .int .i64 k ∧ n = .int .i64 (dgV (t.data.toList.take k)) ∧ w = wr ∧ Hid ((t.data.toList.take k).all dgB = true)) (fun _ _ i _ => t.size - (intOf i).toNat)
  case atStart => exact ⟨0, Nat.zero_le _, rfl, rfl, rfl, rfl⟩
  case round =>
    obtain ⟨k, hk, rfl, rfl, rfl, HA⟩ := hrel
    by_cases hlt : k < t.size
    · have hbt := bt_at hlt
      have hbl : bt t k = ((t.data.toList[k]'(by simpa using hlt)).toNat : Int) := by
        unfold bt
        rw [dif_pos hlt]
        rfl
      have HNX : Hid ((t.data.toList.take (k + 1)).all dgB = dgB (t.data.toList[k]'(by simpa using hlt))) := by show _ = _; rw [all_take (by simpa using hlt), HA.out, Bool.true_and]
      have HVX : Hid (dgV (t.data.toList.take (k + 1)) = 10 * dgV (t.data.toList.take k) + (bt t k - 48)) := by
        show _ = _
        rw [List.take_succ_eq_append_getElem (by simpa using hlt), dgV_snoc, hbl]
      have HST : Hid (dgB (t.data.toList[k]'(by simpa using hlt)) = false → nmF t = 9999) := fun h => if_neg (fun q => by rw [all_stop (by simpa using hlt) h] at q; cases q.2.2)
      have HDB : Hid (dgB (t.data.toList[k]'(by simpa using hlt)) = true ↔ 48 ≤ bt t k ∧ bt t k ≤ 57) := by
        show _ ↔ _
        rw [dgB_true, hbl]
        omega
      have hbd := dgV_bd 4 (t.data.toList.take k) (by simp; omega) HA.out
      have hki : (k : Int) < (t.size : Int) := by omega
      have hb0 : 0 ≤ bt t k ∧ bt t k < 256 := by
        have := (t.data.toList[k]'(by simpa using hlt)).toNat_lt
        omega
      clear hbl
      generalize dgB (t.data.toList[k]'(by simpa using hlt)) = d at *
      generalize bt t k = c at *
      generalize dgV (t.data.toList.take k) = n at *
      by_cases hc1 : c < 48
      · have HV : Hid (nmF t = 9999) := HST.out (by
          cases d
          · rfl
          · have := HDB.out.1 rfl; omega)
        go_wp2_with fail
        go_ret
        exact ⟨by rw [HV.out]; rfl, rfl⟩
      by_cases hc2 : 57 < c
      · have HV : Hid (nmF t = 9999) := HST.out (by
          cases d
          · rfl
          · have := HDB.out.1 rfl; omega)
        go_wp2_with fail
        go_ret
        exact ⟨by rw [HV.out]; rfl, rfl⟩
      have HA2 : Hid ((t.data.toList.take (k + 1)).all dgB = true) := by show _ = _; rw [HNX.out]; exact HDB.out.2 (by omega)
      have hw1 : IntKind.u8.wrap (c - 48) = c - 48 := IntWalk.u8_in _ (by omega)
      have hw2 : IntKind.i64.wrap (10 * n) = 10 * n := IntWalk.i64_in _ (by omega)
      have hw3 : IntKind.i64.wrap (c - 48) = c - 48 := IntWalk.i64_in _ (by omega)
      have hw4 : IntKind.i64.wrap (10 * n + (c - 48)) = 10 * n + (c - 48) := IntWalk.i64_in _ (by omega)
      go_wp2_with fail
      go_roundw
      case rel => exact ⟨k + 1, by omega, by go_num, by rw [HVX.out], by first | exact rfl | exact trivial, HA2.out⟩
      case measure => simp [intOf]; omega
    · obtain rfl : k = t.size := by omega
      have HV : Hid (nmF t = dgV (t.data.toList.take t.size)) := by
        show _ = _
        have e : t.data.toList.take t.size = t.data.toList := List.take_of_length_le (by simp)
        have ha := HA.out
        rw [e] at ha ⊢
        exact if_pos ⟨by have := HSZ.out; omega, by have := HSZ.out; omega, ha⟩
      go_wp2_with fail
      go_ret
      exact ⟨by rw [HV.out]; rfl, rfl⟩
end Go.Proofs.YtlkdmpfifpkpaaaGreatDoor
namespace Go.Proofs.YtlkdmpfifpkpaaaGreatDoor
open Go.RowKit

set_option maxRecDepth 100000 in
set_option maxHeartbeats 1000000 in
set_option linter.unusedSimpArgs false in
theorem catch_idle (b : Nat) (w : World) :
    CallsD Tryz.prog 56 #[.pointer (some ⟨b, 0, none⟩)] .returning w fun e u' w' => e = .returned (.tuple #[]) ∧ u' = .returning ∧ w' = w := by
  refine callsD_of_wpS Tryz.func56 rfl fun c₀ cs hu => ?_
  apply wpS_seq
  apply wpS_region
  simp [wpOpsS, go_sem, recoverD, hu, Tryz.ntmps56, Exit.thenS]
  refine wpS_of_wp ?_
  go_wp2_with fail
  cases c₀
  simp_all [bodyPostS, results, Tryz.results56]
end Go.Proofs.YtlkdmpfifpkpaaaGreatDoor
namespace Go.Proofs.YtlkdmpfifpkpaaaGreatDoor
open Go.RowKit

/-- a builder in block b that holds the cells bs -/
abbrev Sb (B b : Nat) (bs : List Value) (w : World) : Prop := Lib.IsBuilder 59 5 B b bs w
/-- .. that has been written to -/
abbrev SbU (B b : Nat) (bs : List Value) (w : World) : Prop := Lib.BuilderAt 59 5 B b (.pointer (some ⟨b, 0, none⟩)) bs w
set_option maxHeartbeats 1000000 in
set_option maxRecDepth 100000 in
theorem string (B b : Nat) (l : List UInt8) (w : World) (h : Lib.IsBuilder 59 5 B b (Lib.byteCells l) w) (h0 : l ≠ []) :
    Calls Tryz.prog 39 #[.pointer (some ⟨b, 0, none⟩)] w fun e w' => e = .returned (.string ⟨l.toArray⟩) ∧ Below B w w' := by
  obtain ⟨p, hB, v, hbk, hown, hne⟩ : ∃ p, Lib.BuilderAt 59 5 B b p (Lib.byteCells l) w := by
    rcases h with h | h
    · exact ⟨_, h⟩
    · exact ⟨_, h⟩
  have hl0 : l.length ≠ 0 := by simpa using h0
  rw [Lib.byteCells_length] at hown
  obtain ⟨g, cap, cur, rfl, hbg, hg, hnc, hcm, hcs, htake⟩ : ∃ g cap cur, v = .slice (some ⟨g, 0, none⟩) l.length cap ∧ B ≤ g ∧ w.heap[g]? = some (.cells cur 5 (0, 0)) ∧ l.length ≤ cap ∧ cap ≤ maxLen ∧ cur.size = cap * 1 ∧ cur.toList.take (l.length * 1) = Lib.byteCells l := by
    rcases hown.2 with ⟨_, hz⟩ | ⟨g, cap, cur, hv, r⟩
    · exact absurd hz hl0
    · exact ⟨g, cap, cur, hv, r⟩
  have c1 : w.drew.cell? ⟨b, 1, none⟩ = some (.slice (some ⟨g, 0, none⟩) l.length cap) := by
    have : w.drew.heap[b]? = some (.cells #[p, .slice (some ⟨g, 0, none⟩) l.length cap] 59 (0, 0)) := hbk
    rw [Lib.cell_of_heap this]; rfl
  have hSD : (Builtin.unsafeSliceData_ #[22] 89 #[.slice (some ⟨g, 0, none⟩) l.length cap]).run Tryz.prog w.drew = .ok (.pointer (some ⟨g, 0, none⟩)) w.drew :=
    Lib.run_unsafeSliceData_row _ _ _ _ _ _ (by omega)
  have hUS : (Builtin.unsafeString_ #[89, 3] 9 #[.pointer (some ⟨g, 0, none⟩), .int .i64 l.length]).run Tryz.prog w.drew = .ok (.string ⟨l.toArray⟩) (w.drew.freeze ⟨g, 0, none⟩ l.length) := by
    refine Lib.run_unsafeString_row w.drew 89 3 9 5 Tryz.underlying89 (by kernel_rfl) g cur.size (by have hg' : w.drew.heap[g]? = some (.cells cur 5 (0, 0)) := hg; simp [World.shape?, hg']) l h0 (by omega) (by unfold maxLen at hcm; omega) ?_
    intro j x hx
    have := hown.cells (g := g) rfl j (.int .u8 x.toNat) (by simp [Lib.byteCells, hx])
    exact this
  go_enter Tryz.func39, Tryz.ntmps39
  go_wp2_with fail
  go_region
  all_goals (go_wp2_with fail; go_ret; exact ⟨rfl, Lib.below_freeze (Below.drew (Below.refl B w)) (p := ⟨g, 0, none⟩) hbg _⟩)


theorem unsafeString_none (W : World) (q : Option Addr) : (Builtin.unsafeString_ #[89, 3] 9 #[.pointer q, .int .i64 0]).run Tryz.prog W = .ok (.string .empty) W :=
  Lib.run_unsafeString_none W _ _ _ q

set_option maxHeartbeats 2000000 in
set_option maxRecDepth 100000 in
theorem string_nil (B b : Nat) (p : Value) (w : World) (hbk : w.heap[b]? = some (.cells #[p, .slice none 0 0] 59 (0, 0))) :
    Calls Tryz.prog 39 #[.pointer (some ⟨b, 0, none⟩)] w fun e w' => e = .returned (.string ⟨#[]⟩) ∧ Below B w w' := by
  have hUS := unsafeString_none
  have c1 : w.drew.cell? ⟨b, 1, none⟩ = some (.slice none 0 0) := by
    have : w.drew.heap[b]? = some (.cells #[p, .slice none 0 0] 59 (0, 0)) := hbk
    rw [Lib.cell_of_heap this]; rfl
  have hSD : (Builtin.unsafeSliceData_ #[22] 89 #[.slice none 0 0]).run Tryz.prog w.drew = .ok (.pointer none) w.drew := rfl
  go_enter Tryz.func39, Tryz.ntmps39
  go_wp2_with fail
  go_region
  all_goals (go_wp2_with fail; go_ret; exact ⟨rfl, Below.drew (Below.refl B w)⟩)

set_option maxHeartbeats 2000000 in
set_option maxRecDepth 100000 in
theorem string_noroom (B b g : Nat) (p : Value) (cur : Array Value) (w : World) (hBw : B ≤ w.heap.size) (hbk : w.heap[b]? = some (.cells #[p, .slice (some ⟨g, 0, none⟩) 0 0] 59 (0, 0))) (hg : w.heap[g]? = some (.cells cur 5 (0, 0))) :
    Calls Tryz.prog 39 #[.pointer (some ⟨b, 0, none⟩)] w fun e w' => e = .returned (.string ⟨#[]⟩) ∧ Below B w w' := by
  have hUS := unsafeString_none
  have hlt : b < w.heap.size := by
    rcases Nat.lt_or_ge b w.heap.size with h' | h'
    · exact h'
    · simp [Array.getElem?_eq_none h'] at hbk
  have c1 : w.drew.cell? ⟨b, 1, none⟩ = some (.slice (some ⟨g, 0, none⟩) 0 0) := by
    have : w.drew.heap[b]? = some (.cells #[p, .slice (some ⟨g, 0, none⟩) 0 0] 59 (0, 0)) := hbk
    rw [Lib.cell_of_heap this]; rfl
  have hSD : (Builtin.unsafeSliceData_ #[22] 89 #[.slice (some ⟨g, 0, none⟩) 0 0]).run Tryz.prog w.drew = .ok (.pointer (some ⟨w.drew.heap.size, 0, none⟩)) (w.drew.alloc (.view ⟨g, 0, none⟩ 5)) :=
    Lib.run_unsafeSliceData_zero w.drew _ _ 5 Tryz.underlying89 ⟨g, 0, none⟩ 0 (5, cur.size) (by have hg' : w.drew.heap[g]? = some (.cells cur 5 (0, 0)) := hg; simp [World.shape?, hg'])
  have c2 : (w.drew.alloc (.view ⟨g, 0, none⟩ 5)).cell? ⟨b, 1, none⟩ = some (.slice (some ⟨g, 0, none⟩) 0 0) := by
    have : (w.drew.alloc (.view ⟨g, 0, none⟩ 5)).heap[b]? = _ := (Lib.alloc_old w.drew _ b hlt).trans hbk
    rw [Lib.cell_of_heap this]; rfl
  -- (the same fact as the how-to's newer walk spells the world; and of w itself, to which the elder walk comes down)
  have c3 : (w.alloc (.view ⟨g, 0, none⟩ 5)).drew.cell? ⟨b, 1, none⟩ = some (.slice (some ⟨g, 0, none⟩) 0 0) := c2
  have c0 : w.cell? ⟨b, 1, none⟩ = some (.slice (some ⟨g, 0, none⟩) 0 0) := c1
  go_enter Tryz.func39, Tryz.ntmps39
  go_wp2_with fail
  go_region
  all_goals (go_wp2_with fail; go_ret; exact ⟨rfl, (Below.drew (Below.refl B w)).alloc hBw _⟩)

set_option maxHeartbeats 2000000 in
set_option maxRecDepth 100000 in
theorem string_room (B b g cap : Nat) (p : Value) (w : World) (hc0 : cap ≠ 0) (hbk : w.heap[b]? = some (.cells #[p, .slice (some ⟨g, 0, none⟩) 0 cap] 59 (0, 0))) :
    Calls Tryz.prog 39 #[.pointer (some ⟨b, 0, none⟩)] w fun e w' => e = .returned (.string ⟨#[]⟩) ∧ Below B w w' := by
  have hUS := unsafeString_none
  have c1 : w.drew.cell? ⟨b, 1, none⟩ = some (.slice (some ⟨g, 0, none⟩) 0 cap) := by
    have : w.drew.heap[b]? = some (.cells #[p, .slice (some ⟨g, 0, none⟩) 0 cap] 59 (0, 0)) := hbk
    rw [Lib.cell_of_heap this]; rfl
  have hSD : (Builtin.unsafeSliceData_ #[22] 89 #[.slice (some ⟨g, 0, none⟩) 0 cap]).run Tryz.prog w.drew = .ok (.pointer (some ⟨g, 0, none⟩)) w.drew :=
    Lib.run_unsafeSliceData_row _ _ _ _ _ _ hc0
  clear hc0
  go_enter Tryz.func39, Tryz.ntmps39
  go_wp2_with fail
  go_region
  all_goals (go_wp2_with fail; go_ret; exact ⟨rfl, Below.drew (Below.refl B w)⟩)

theorem string_empty (B b : Nat) (w : World) (h : Lib.IsBuilder 59 5 B b [] w) (hBw : B ≤ w.heap.size) :
    Calls Tryz.prog 39 #[.pointer (some ⟨b, 0, none⟩)] w fun e w' => e = .returned (.string ⟨#[]⟩) ∧ Below B w w' := by
  obtain ⟨p, hB, v, hbk, hown, hne⟩ : ∃ p, Lib.BuilderAt 59 5 B b p [] w := by
    rcases h with h | h
    · exact ⟨_, h⟩
    · exact ⟨_, h⟩
  rcases hown.2 with ⟨rfl, _⟩ | ⟨g, cap, cur, rfl, hbg, hg, _, _, _, _⟩
  · exact string_nil B b p w hbk
  · by_cases hc0 : cap = 0
    · subst hc0
      exact string_noroom B b g p cur w hBw hbk hg
    · exact string_room B b g cap p w hc0 hbk

theorem string_any (B b : Nat) (l : List UInt8) (w : World) (h : Lib.IsBuilder 59 5 B b (Lib.byteCells l) w) (hBw : B ≤ w.heap.size) :
    Calls Tryz.prog 39 #[.pointer (some ⟨b, 0, none⟩)] w fun e w' => e = .returned (.string ⟨l.toArray⟩) ∧ Below B w w' := by
  cases l with
  | nil => exact string_empty B b w h hBw
  | cons x r => exact string B b (x :: r) w h (by simp)

end Go.Proofs.YtlkdmpfifpkpaaaGreatDoor
namespace Go.Proofs.YtlkdmpfifpkpaaaGreatDoor
open Go.RowKit

/-- the entry with a number, or nil -/
def pE (es : List Nat) (i : Nat) : Value := match es[i]? with | some b => .pointer (some ⟨b, 0, none⟩) | none => .pointer none
theorem pE_some {es : List Nat} {i : Nat} (h : i < es.length) : pE es i = .pointer (some ⟨es.getD i 0, 0, none⟩) := by
  unfold pE
  rw [List.getD_eq_getElem?_getD, List.getElem?_eq_getElem h]
  rfl
theorem pE_none {es : List Nat} {i : Nat} (h : es.length ≤ i) : pE es i = .pointer none := by
  unfold pE
  rw [List.getElem?_eq_none h]
theorem pE_old {es : List Nat} {i b : Nat} (h : i < es.length) : pE (es ++ [b]) i = pE es i := by
  unfold pE
  rw [List.getElem?_append_left h]
theorem pE_new {es : List Nat} {b : Nat} : pE (es ++ [b]) es.length = .pointer (some ⟨b, 0, none⟩) := by
  unfold pE
  simp
theorem gD_old {es : List Nat} {i b : Nat} (h : i < es.length) : (es ++ [b]).getD i 0 = es.getD i 0 := by
  rw [List.getD_eq_getElem?_getD, List.getD_eq_getElem?_getD, List.getElem?_append_left h]
theorem gD_new {es : List Nat} {b : Nat} : (es ++ [b]).getD es.length 0 = b := by
  rw [List.getD_eq_getElem?_getD]
  simp
/-- a note of a list -/
def nM (ns : List (Int × ByteArray)) (i : Nat) : Int := ((ns[i]?).map (·.1)).getD 0
def nL (ns : List (Int × ByteArray)) (i : Nat) : ByteArray := ((ns[i]?).map (·.2)).getD ⟨#[]⟩
theorem nM_at {ns : List (Int × ByteArray)} {i : Nat} (h : i < ns.length) : nM ns i = (ns[i]).1 := by unfold nM; rw [List.getElem?_eq_getElem h]; rfl
theorem nL_at {ns : List (Int × ByteArray)} {i : Nat} (h : i < ns.length) : nL ns i = (ns[i]).2 := by unfold nL; rw [List.getElem?_eq_getElem h]; rfl
theorem nM_old {ns : List (Int × ByteArray)} {z : Int × ByteArray} {i : Nat} (h : i < ns.length) : nM (ns ++ [z]) i = nM ns i ∧ nL (ns ++ [z]) i = nL ns i := by
  unfold nM nL
  rw [List.getElem?_append_left h]
  exact ⟨rfl, rfl⟩
theorem nM_new {ns : List (Int × ByteArray)} {z : Int × ByteArray} : nM (ns ++ [z]) ns.length = z.1 ∧ nL (ns ++ [z]) ns.length = z.2 := by
  unfold nM nL
  simp
/-- block r is a register of the entries es that hold the notes ns -/
structure RgC (w : World) (r : Nat) (es : List Nat) (ns : List (Int × ByteArray)) : Prop where
  box : Bx w r 210 #[pE es 0, pE es (es.length - 1), .int .i64 es.length]
  len : es.length = ns.length
  ent : ∀ i, i < es.length → Bx w (es.getD i 0) 213 #[.int .i64 (nM ns i), .string (nL ns i), pE es (i + 1)]
  dst : ∀ i, i < es.length → es.getD i 0 ≠ r
  inj : ∀ i j, i < es.length → j < es.length → es.getD i 0 = es.getD j 0 → i = j
theorem RgC.below {w w' : World} {r B : Nat} {es : List Nat} {ns : List (Int × ByteArray)} (h : RgC w r es ns) (hb : Below B w w') (hB : w.heap.size ≤ B) : RgC w' r es ns :=
  ⟨h.box.below hb (Nat.lt_of_lt_of_le h.box.lt hB), h.len, fun i hi => (h.ent i hi).below hb (Nat.lt_of_lt_of_le (h.ent i hi).lt hB), h.dst, h.inj⟩
theorem RgC.alloc {w : World} {r : Nat} {es : List Nat} {ns : List (Int × ByteArray)} (h : RgC w r es ns) (o : Obj) : RgC (w.alloc o) r es ns := h.below (below_all _ _) (Nat.le_refl _)
theorem RgC.drew {w : World} {r : Nat} {es : List Nat} {ns : List (Int × ByteArray)} (h : RgC w r es ns) : RgC w.drew r es ns := h.below (Below.refl _ w).drew (Nat.le_refl _)
/-- a register without notes -/
theorem RgC.nil {w : World} {r : Nat} (h : Bx w r 210 #[.pointer none, .pointer none, .int .i64 0]) : RgC w r [] [] :=
  ⟨h, rfl, fun i hi => by simp at hi, fun i hi => by simp at hi, fun i j hi => by simp at hi⟩
/-- the number of an entry, for the measure of a loop -/
def ixE (es : List Nat) : Value → Nat
  | .pointer (some a) => ((List.range es.length).find? (fun i => decide (es.getD i 0 = a.block))).getD es.length
  | _ => es.length
theorem RgC.ix {w : World} {r : Nat} {es : List Nat} {ns : List (Int × ByteArray)} (h : RgC w r es ns) {i : Nat} (hi : i ≤ es.length) : ixE es (pE es i) = i := by
  rcases Nat.lt_or_ge i es.length with h1 | h1
  · rw [pE_some h1]
    show ((List.range es.length).find? (fun j => decide (es.getD j 0 = es.getD i 0))).getD es.length = i
    cases e : (List.range es.length).find? (fun j => decide (es.getD j 0 = es.getD i 0)) with
    | none =>
      have h2 := List.find?_eq_none.1 e i (List.mem_range.2 h1)
      simp at h2
    | some j =>
      have h2 := List.find?_some e
      have h3 := List.mem_range.1 (List.mem_of_find?_eq_some e)
      exact h.inj j i h3 h1 (by simpa using h2)
  · obtain rfl : i = es.length := by omega
    rw [pE_none (Nat.le_refl _)]
    rfl
/-- all blocks of a register lie at a bound or above -/
def RgB (B r : Nat) (es : List Nat) : Prop := B ≤ r ∧ ∀ i, i < es.length → B ≤ es.getD i 0
theorem RgB.push {B r b : Nat} {es : List Nat} (h : RgB B r es) (hb : B ≤ b) : RgB B r (es ++ [b]) := ⟨h.1, fun i hi => by
  rcases Nat.lt_or_ge i es.length with h1 | h1
  · rw [gD_old h1]; exact h.2 i h1
  · simp at hi
    obtain rfl : i = es.length := by omega
    rw [gD_new]; exact hb⟩
theorem RgB.mono {B D r : Nat} {es : List Nat} (h : RgB B r es) (hD : D ≤ B) : RgB D r es := ⟨Nat.le_trans hD h.1, fun i hi => Nat.le_trans hD (h.2 i hi)⟩
theorem bx3s {w : World} {b : Nat} {t : TypeId} {v0 v1 v2 : Value} (h : Bx w b t #[v0, v1, v2]) (u0 u1 u2 : Value) : Bx (((w.setCell ⟨b, 0, none⟩ u0).setCell ⟨b, 1, none⟩ u1).setCell ⟨b, 2, none⟩ u2) b t #[u0, u1, u2] := by
  have := ((h.set 0 u0).set 1 u1).set 2 u2
  simpa using this
/-- the first note -/
theorem RgC.put0 {w : World} {r : Nat} (h : RgC w r [] []) (z : Int × ByteArray) (A : Obj) (b : Nat) (hb : b = w.heap.size + 1) :
    RgC (((((w.setCell ⟨r, 0, none⟩ (.pointer (some ⟨b, 0, none⟩))).setCell ⟨r, 1, none⟩ (.pointer (some ⟨b, 0, none⟩))).setCell ⟨r, 2, none⟩ (.int .i64 1)).alloc A).alloc (.cells #[.int .i64 z.1, .string z.2, .pointer none] 213)) r [b] [z] := by
  have hl := h.box.lt
  refine ⟨?_, rfl, fun i hi => ?_, fun i hi => ?_, fun i j hi hj _ => ?_⟩
  · exact ((bx3s h.box _ _ _).alloc _).alloc _
  · obtain rfl : i = 0 := by simpa using hi
    exact Bx.newAt (by simp [World.setCell]; omega)
  · obtain rfl : i = 0 := by simpa using hi
    show b ≠ r
    omega
  · simp at hi hj
    omega
/-- one note more -/
theorem RgC.put1 {w : World} {r : Nat} {es : List Nat} {ns : List (Int × ByteArray)} (h : RgC w r es ns) (h0 : 0 < es.length) (z : Int × ByteArray) (A : Obj) (b : Nat) (hb : b = w.heap.size + 1) :
    RgC (((((w.setCell ⟨es.getD (es.length - 1) 0, 2, none⟩ (.pointer (some ⟨b, 0, none⟩))).setCell ⟨r, 1, none⟩ (.pointer (some ⟨b, 0, none⟩))).setCell ⟨r, 2, none⟩ (.int .i64 ((es.length : Int) + 1))).alloc A).alloc (.cells #[.int .i64 z.1, .string z.2, .pointer none] 213)) r (es ++ [b]) (ns ++ [z]) := by
  have hl := h.box.lt
  have hlen := h.len
  have hne := h.dst (es.length - 1) (by omega)
  refine ⟨?_, by simp [hlen], fun i hi => ?_, fun i hi => ?_, fun i j hi hj e => ?_⟩
  · have h1 := ((h.box.setOther (a := ⟨es.getD (es.length - 1) 0, 2, none⟩) (fun e => hne e.symm) (.pointer (some ⟨b, 0, none⟩))).set 1 (.pointer (some ⟨b, 0, none⟩))).set 2 (.int .i64 ((es.length : Int) + 1))
    have h2 := (h1.alloc A).alloc (.cells #[.int .i64 z.1, .string z.2, .pointer none] 213)
    rw [show (es ++ [b]).length - 1 = es.length by simp, pE_new, pE_old h0]
    simpa using h2
  · simp at hi
    rcases Nat.lt_or_ge i es.length with h1 | h1
    · rw [gD_old h1, (nM_old (z := z) (show i < ns.length by omega)).1, (nM_old (z := z) (show i < ns.length by omega)).2]
      have he := h.ent i h1
      by_cases e : i = es.length - 1
      · subst e
        rw [show es.length - 1 + 1 = es.length by omega, pE_new]
        have h3 := ((he.set 2 (.pointer (some ⟨b, 0, none⟩))).setOther (a := ⟨r, 1, none⟩) hne (.pointer (some ⟨b, 0, none⟩))).setOther (a := ⟨r, 2, none⟩) hne (.int .i64 ((es.length : Int) + 1))
        have h4 := (h3.alloc A).alloc (.cells #[.int .i64 z.1, .string z.2, .pointer none] 213)
        simpa using h4
      · rw [pE_old (show i + 1 < es.length by omega)]
        have hn2 := h.dst i h1
        have hn3 : es.getD i 0 ≠ es.getD (es.length - 1) 0 := fun q => e (h.inj i (es.length - 1) h1 (by omega) q)
        exact ((((he.setOther (a := ⟨es.getD (es.length - 1) 0, 2, none⟩) hn3 _).setOther (a := ⟨r, 1, none⟩) hn2 _).setOther (a := ⟨r, 2, none⟩) hn2 _).alloc _).alloc _
    · obtain rfl : i = es.length := by omega
      rw [gD_new, hlen, nM_new.1, nM_new.2, pE_none (by simp [hlen])]
      exact Bx.newAt (by simp [World.setCell]; omega)
  · simp at hi
    rcases Nat.lt_or_ge i es.length with h1 | h1
    · rw [gD_old h1]; exact h.dst i h1
    · obtain rfl : i = es.length := by omega
      rw [gD_new]; omega
  · simp at hi hj
    have hlt : ∀ q, q < es.length → es.getD q 0 < b := fun q hq => by have := (h.ent q hq).lt; omega
    rcases Nat.lt_or_ge i es.length with h1 | h1
    · rcases Nat.lt_or_ge j es.length with h2 | h2
      · rw [gD_old h1, gD_old h2] at e; exact h.inj i j h1 h2 e
      · obtain rfl : j = es.length := by omega
        rw [gD_old h1, gD_new] at e
        have := hlt i h1
        omega
    · obtain rfl : i = es.length := by omega
      rcases Nat.lt_or_ge j es.length with h2 | h2
      · rw [gD_old h2, gD_new] at e
        have := hlt j h2
        omega
      · omega
set_option linter.unusedSimpArgs false in
set_option maxHeartbeats 1000000 in
theorem put_any (B r : Nat) (es : List Nat) (ns : List (Int × ByteArray)) (z : Int × ByteArray) (w : World) (h : RgC w r es ns) (hn : ns.length ≤ 1000000) (hB : RgB B r es) (hBw : B ≤ w.heap.size) :
    Calls Tryz.prog 175 #[.pointer (some ⟨r, 0, none⟩), .agg #[.int .i64 z.1, .string z.2]] w fun e w' => e = .returned (.tuple #[]) ∧ (∃ b, w.heap.size ≤ b ∧ RgC w' r (es ++ [b]) (ns ++ [z])) ∧ Below B w w' := by
  obtain ⟨s, l⟩ := z
  have hlen := h.len
  have hrl := h.box.lt
  have hrc := h.box.cell
  have hrf := h.box.free
  have HR := Lib.hid h
  have HLEN := Lib.hid hlen
  rcases Nat.eq_zero_or_pos es.length with h0 | h0
  · obtain rfl : es = [] := List.length_eq_zero_iff.1 h0
    obtain rfl : ns = [] := List.length_eq_zero_iff.1 (by rw [← hlen]; rfl)
    clear h0 hlen h
    have hrc' : ∀ o, w.cell? ⟨r, o, none⟩ = (#[.pointer none, .pointer none, .int .i64 0] : Array Value)[o]? := hrc
    clear hrc
    go_enter Tryz.func175, Tryz.ntmps175
    go_wp2_with fail
    go_end0
    exact ⟨rfl, ⟨w.heap.size + 1, by omega, HR.out.put0 (s, l) _ _ rfl⟩, (((((Below.refl B w).setCell (p := ⟨r, 0, none⟩) hB.1 _).setCell (p := ⟨r, 1, none⟩) hB.1 _).setCell (p := ⟨r, 2, none⟩) hB.1 _).alloc (by simp; omega) _).alloc (by simp; omega) _⟩
  · have he := h.ent (es.length - 1) (by omega)
    have hec := he.cell
    have hef := he.free
    have hel := he.lt
    have hne := h.dst (es.length - 1) (by omega)
    have hBe := hB.2 (es.length - 1) (by omega)
    have HP0 : Hid (pE es (es.length - 1) = .pointer (some ⟨es.getD (es.length - 1) 0, 0, none⟩)) := pE_some (by omega)
    rw [HP0.out] at hrc
    have HPUT := Lib.hid (h.put1 h0 (s, l) (.cells #[.int .i64 s, .string l] 155) (w.heap.size + 1) rfl)
    have hne2 : r ≠ es.getD (es.length - 1) 0 := fun e => hne e.symm
    clear he h hlen
    generalize es.getD (es.length - 1) 0 = eb at *
    have hn' : es.length ≤ 1000000 := by rw [HLEN.out]; exact hn
    have hp1 : pE es (es.length - 1 + 1) = .pointer none := pE_none (by omega)
    generalize pE es 0 = p0 at *
    generalize pE es (es.length - 1 + 1) = p1 at *
    subst hp1
    go_enter Tryz.func175, Tryz.ntmps175
    go_wp2_with fail
    go_end0
    exact ⟨rfl, ⟨w.heap.size + 1, by omega, HPUT.out⟩, (((((Below.refl B w).setCell (p := ⟨eb, 2, none⟩) hBe _).setCell (p := ⟨r, 1, none⟩) hB.1 _).setCell (p := ⟨r, 2, none⟩) hB.1 _).alloc (by simp; omega) _).alloc (by simp; omega) _⟩
end Go.Proofs.YtlkdmpfifpkpaaaGreatDoor
namespace Go.Proofs.YtlkdmpfifpkpaaaGreatDoor
open Go.RowKit

/-- the words of the commands, how many words each wants, what it does -/
def cmW : Nat → ByteArray
  | 0 => ⟨#[108, 105, 110, 101]⟩
  | 1 => ⟨#[119, 97, 105, 116]⟩
  | 2 => ⟨#[100, 111]⟩
  | 3 => ⟨#[102, 105, 110, 105, 115, 104]⟩
  | 4 => ⟨#[119, 104, 101, 114, 101]⟩
  | 5 => ⟨#[110, 101, 120, 116]⟩
  | 6 => ⟨#[98, 111, 111, 107]⟩
  | 7 => ⟨#[102, 105, 116]⟩
  | _ => ⟨#[98, 117, 115, 121]⟩
def cmN : Nat → Int
  | 0 => 3
  | 1 => 2
  | 2 => 3
  | 3 => 1
  | 4 => 1
  | 5 => 1
  | 6 => 2
  | 7 => -1
  | _ => 2
def cmF : Nat → Nat
  | 0 => 96
  | 1 => 97
  | 2 => 98
  | 3 => 99
  | 4 => 100
  | 5 => 101
  | 6 => 102
  | 7 => 103
  | _ => 104
def cmC : Array Value := #[.string (cmW 0), .int .i64 (cmN 0), .func (.func (cmF 0)) #[] #[], .string (cmW 1), .int .i64 (cmN 1), .func (.func (cmF 1)) #[] #[], .string (cmW 2), .int .i64 (cmN 2), .func (.func (cmF 2)) #[] #[],
  .string (cmW 3), .int .i64 (cmN 3), .func (.func (cmF 3)) #[] #[], .string (cmW 4), .int .i64 (cmN 4), .func (.func (cmF 4)) #[] #[], .string (cmW 5), .int .i64 (cmN 5), .func (.func (cmF 5)) #[] #[],
  .string (cmW 6), .int .i64 (cmN 6), .func (.func (cmF 6)) #[] #[], .string (cmW 7), .int .i64 (cmN 7), .func (.func (cmF 7)) #[] #[], .string (cmW 8), .int .i64 (cmN 8), .func (.func (cmF 8)) #[] #[]]
theorem cmC_at {k : Nat} (h : k < 9) : cmC[k * 3]? = some (.string (cmW k)) ∧ cmC[k * 3 + 1]? = some (.int .i64 (cmN k)) ∧ cmC[k * 3 + 2]? = some (.func (.func (cmF k)) #[] #[]) := by
  match k, h with
  | 0, _ => exact ⟨rfl, rfl, rfl⟩
  | 1, _ => exact ⟨rfl, rfl, rfl⟩
  | 2, _ => exact ⟨rfl, rfl, rfl⟩
  | 3, _ => exact ⟨rfl, rfl, rfl⟩
  | 4, _ => exact ⟨rfl, rfl, rfl⟩
  | 5, _ => exact ⟨rfl, rfl, rfl⟩
  | 6, _ => exact ⟨rfl, rfl, rfl⟩
  | 7, _ => exact ⟨rfl, rfl, rfl⟩
  | 8, _ => exact ⟨rfl, rfl, rfl⟩
set_option maxRecDepth 100000 in
set_option maxHeartbeats 1000000 in
set_option linter.unusedSimpArgs false in
theorem commands_any (w : World) :
    Calls Tryz.prog 74 #[] w fun e w' => e = .returned (.slice (some ⟨w.heap.size, 0, none⟩) 9 9) ∧ w' = w.alloc (.cells cmC 119) := by
  go_enter Tryz.func74, Tryz.ntmps74
  go_wp2_with fail
  go_ret
  exact ⟨rfl, rfl⟩
set_option maxRecDepth 100000 in
set_option maxHeartbeats 1000000 in
set_option linter.unusedSimpArgs false in
/-- the closure that asks for a word -/
theorem do1_any (z : ByteArray) (n : Int) (f : Value) (bx bw ow m c : Nat) (w0 : ByteArray) (w : World) (hm : 0 < m) (hx : Bx w bx 60 #[.slice (some ⟨bw, ow, none⟩) m c]) (h0 : w.cell? ⟨bw, ow, none⟩ = some (.string w0)) :
    Calls Tryz.prog 76 #[.agg #[.string z, .int .i64 n, f], .pointer (some ⟨bx, 0, none⟩)] w fun e w' => e = .returned (.bool (z.toList == w0.toList)) ∧ Below w.heap.size w w' := by
  have HX := Lib.hid hx
  have hbw : bw < w.heap.size := World.block_lt_of_cell? w ⟨bw, ow, none⟩ h0
  have H0 := Lib.hid h0
  clear hx h0
  go_enter Tryz.func76, Tryz.ntmps76
  go_wp2_with fail
  have HZ : Hid (Bx (w.alloc (.cells #[.string z, .int .i64 n, f] 119)) w.heap.size 119 #[.string z, .int .i64 n, f]) := Bx.new _ _ _
  have HB : Hid (Below w.heap.size w (w.alloc (.cells #[.string z, .int .i64 n, f] 119))) := below_all _ _
  have hq1 : (w.alloc (.cells #[.string z, .int .i64 n, f] 119)).drew.cell? ⟨w.heap.size, 0, none⟩ = some (.string z) := (HZ.out.below (Below.refl _ _).drew HZ.out.lt).cell 0
  have hq2 : (w.alloc (.cells #[.string z, .int .i64 n, f] 119)).drew.cell? ⟨bx, 0, none⟩ = some (.slice (some ⟨bw, ow, none⟩) m c) := (HX.out.below HB.out.drew HX.out.lt).cell 0
  have hq3 : (w.alloc (.cells #[.string z, .int .i64 n, f] 119)).drew.cell? ⟨bw, ow, none⟩ = some (.string w0) := by rw [HB.out.drew.cell (p := ⟨bw, ow, none⟩) hbw]; exact H0.out
  have hmi : (0 : Int) < (m : Int) := by omega
  refine wp_region_held_drew (S := fun W => W.cell? ⟨w.heap.size, 0, none⟩ = some (.string z) ∧ W.cell? ⟨bx, 0, none⟩ = some (.slice (some ⟨bw, ow, none⟩) m c) ∧ W.cell? ⟨bw, ow, none⟩ = some (.string w0)) (by kernel_rfl) ⟨hq1, hq2, hq3⟩ (fun hHeld => ?_)
  clear hq1 hq2 hq3
  refine wpAnyH_take (i := 0) (oi := ?_) (v := ?_) ?_ (by kernel_rfl) (by kernel_rfl) (by kernel_rfl) ?_ ?_ (by assumption) ?_
  rotate_left 2
  · simp only [List.getElem?_toArray, List.getElem?_cons_succ, List.getElem?_cons_zero]; rfl
  · exact fun _ _ _ h => h
  · first
      | (refine Or.inr ⟨?_, ?_⟩ <;> rfl)
      | (refine Or.inl ⟨?_, ?_⟩; · rfl
         intro w hSw; (try dsimp only at hSw); go_simp; (try with_reducible rfl); done)
  try simp only [Act.put, List.setIfInBounds_toArray, List.set_cons_zero, List.set_cons_succ]
  refine wpAnyH_take (i := 1) (oi := ?_) (v := ?_) ?_ (by kernel_rfl) (by kernel_rfl) (by kernel_rfl) ?_ ?_ (by assumption) ?_
  rotate_left 2
  · simp only [List.getElem?_toArray, List.getElem?_cons_succ, List.getElem?_cons_zero]; rfl
  · exact fun _ _ _ h => h
  · first
      | (refine Or.inr ⟨?_, ?_⟩ <;> rfl)
      | (refine Or.inl ⟨?_, ?_⟩; · rfl
         intro w hSw; (try dsimp only at hSw); go_simp; (try with_reducible rfl); done)
  try simp only [Act.put, List.setIfInBounds_toArray, List.set_cons_zero, List.set_cons_succ]
  refine wpAnyH_take (i := 2) (oi := ?_) (v := ?_) ?_ (by kernel_rfl) (by kernel_rfl) (by kernel_rfl) ?_ ?_ (by assumption) ?_
  rotate_left 2
  · simp only [List.getElem?_toArray, List.getElem?_cons_succ, List.getElem?_cons_zero]; rfl
  · exact fun _ _ _ h => h
  · first
      | (refine Or.inr ⟨?_, ?_⟩ <;> rfl)
      | (refine Or.inl ⟨?_, ?_⟩; · rfl
         intro w hSw; (try dsimp only at hSw); go_simp; (try with_reducible rfl); done)
  try simp only [Act.put, List.setIfInBounds_toArray, List.set_cons_zero, List.set_cons_succ]
  refine wpAnyH_take (i := 3) (oi := ?_) (v := ?_) ?_ (by kernel_rfl) (by kernel_rfl) (by kernel_rfl) ?_ ?_ (by assumption) ?_
  rotate_left 2
  · simp only [List.getElem?_toArray, List.getElem?_cons_succ, List.getElem?_cons_zero]; rfl
  · exact fun _ _ _ h => h
  · first
      | (refine Or.inr ⟨?_, ?_⟩ <;> rfl)
      | (refine Or.inl ⟨?_, ?_⟩; · rfl
         intro w hSw; (try dsimp only at hSw); go_simp; (try with_reducible rfl); done)
  try simp only [Act.put, List.setIfInBounds_toArray, List.set_cons_zero, List.set_cons_succ]
  refine wpAnyH_take (i := 4) (oi := ?_) (v := ?_) ?_ (by kernel_rfl) (by kernel_rfl) (by kernel_rfl) ?_ ?_ (by assumption) ?_
  rotate_left 2
  · simp only [List.getElem?_toArray, List.getElem?_cons_succ, List.getElem?_cons_zero]; rfl
  · exact fun _ _ _ h => h
  · first
      | (refine Or.inr ⟨?_, ?_⟩ <;> rfl)
      | (refine Or.inl ⟨?_, ?_⟩; · rfl
         intro w hSw; (try dsimp only at hSw); go_simp; (try with_reducible rfl); done)
  try simp only [Act.put, List.setIfInBounds_toArray, List.set_cons_zero, List.set_cons_succ]
  refine wpAnyH_take (i := 5) (oi := ?_) (v := ?_) ?_ (by kernel_rfl) (by kernel_rfl) (by kernel_rfl) ?_ ?_ (by assumption) ?_
  rotate_left 2
  · simp only [List.getElem?_toArray, List.getElem?_cons_succ, List.getElem?_cons_zero]; rfl
  · exact fun _ _ _ h => h
  · first
      | (refine Or.inr ⟨?_, ?_⟩ <;> rfl)
      | (refine Or.inl ⟨?_, ?_⟩; · rfl
         intro w hSw; (try dsimp only at hSw); go_simp; (try with_reducible rfl); done)
  try simp only [Act.put, List.setIfInBounds_toArray, List.set_cons_zero, List.set_cons_succ]
  refine wpAnyH_take (i := 6) (oi := ?_) (v := ?_) ?_ (by kernel_rfl) (by kernel_rfl) (by kernel_rfl) ?_ ?_ (by assumption) ?_
  rotate_left 2
  · simp only [List.getElem?_toArray, List.getElem?_cons_succ, List.getElem?_cons_zero]; rfl
  · exact fun _ _ _ h => h
  · first
      | (refine Or.inr ⟨?_, ?_⟩ <;> rfl)
      | (refine Or.inl ⟨?_, ?_⟩; · rfl
         intro w hSw; (try dsimp only at hSw); go_simp; (try with_reducible rfl); done)
  try simp only [Act.put, List.setIfInBounds_toArray, List.set_cons_zero, List.set_cons_succ]
  refine wpAnyH_done (by kernel_rfl) ?_ _
  go_wp2_with fail
  go_ret
  exact ⟨rfl, HB.out.drew⟩
end Go.Proofs.YtlkdmpfifpkpaaaGreatDoor
