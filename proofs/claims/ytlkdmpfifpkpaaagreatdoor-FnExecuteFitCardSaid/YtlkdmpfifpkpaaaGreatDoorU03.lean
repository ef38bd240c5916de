/-
  Parts of the proof of fnExecuteFit_proved: Bk Bs Sb Ka Sh Bu Bv Kc Kd Ke. No condition.
-/
import Derived.Test.YtlkdmpfifpkpaaaGreatDoorChecked
import Derived.Laws.BitsAllLaws
import Derived.Deep.RegionWith
import Derived.WalkKit
import Derived.WalkSpells
import Derived.WalkLawsBesides
import Derived.Lib.Hide
import Derived.BigQuiet
import Derived.Deep.QuietTactic
import Derived.Deep.RegionHeld3
import Derived.Deep.DeepFit
import Derived.Lib.Strings
import Derived.Lib.Builder
import Derived.Lib.AppendStr
import Derived.Lib.UnsafeStr
import Derived.Lib.Slices
import Derived.Laws.Externs
import Derived.Shelf.Strings.Builder1
import Derived.Shelf.Strings.Builder2
import Derived.Shelf.Strings.OnBuilder
import Derived.Shelf.Strings.BuilderF
import Derived.Shelf.Strconv.Itoa0
import Derived.Shelf.Strconv.Itoa1
import Derived.Shelf.LaysM
import Derived.Shelf.Strconv.Itoa2
import Derived.Shelf.Strconv.Itoa3
import Derived.Shelf.Strings.Search1
import Derived.Shelf.Strings.Search2
import Derived.Shelf.Strings.Search3
import Derived.Shelf.Strings.Count
import Derived.Shelf.Strings.Shaped
import Derived.Shelf.Strings.Split
import Derived.Shelf.Strings.SplitShaped
import Derived.Shelf.Unicode.DecodeSlow
import Derived.Test.YtlkdmpfifpkpaaaGreatDoorProg
import Derived.Lib.IndexLaws
import Derived.Test.YtlkdmpfifpkpaaaGreatDoorU01
namespace Go.Proofs.YtlkdmpfifpkpaaaGreatDoor
open Go.RowKit

/-- a block as data -/
structure Bk where
  n : Int
  i : Bool
  o : Bool
deriving DecidableEq
/-- the blocks of the five states -/
def stB : Nat → Bk
  | 0 => ⟨0, false, false⟩
  | 1 => ⟨0, false, true⟩
  | 2 => ⟨1, false, false⟩
  | 3 => ⟨2, true, false⟩
  | _ => ⟨2, false, false⟩

theorem normalState_meth (f : Nat) (w : World) : (method (f + 1) 133 (.agg #[]) "loop.example/blockboxes/impl.block").run Tryz.prog w = .ok (198, .agg #[]) w := by kernel_rfl
theorem offeredState_meth (f : Nat) (w : World) : (method (f + 1) 134 (.agg #[]) "loop.example/blockboxes/impl.block").run Tryz.prog w = .ok (199, .agg #[]) w := by kernel_rfl
theorem clearState_meth (f : Nat) (w : World) : (method (f + 1) 135 (.agg #[]) "loop.example/blockboxes/impl.block").run Tryz.prog w = .ok (200, .agg #[]) w := by kernel_rfl
theorem insideState_meth (f : Nat) (w : World) : (method (f + 1) 136 (.agg #[]) "loop.example/blockboxes/impl.block").run Tryz.prog w = .ok (201, .agg #[]) w := by kernel_rfl
theorem passedState_meth (f : Nat) (w : World) : (method (f + 1) 137 (.agg #[]) "loop.example/blockboxes/impl.block").run Tryz.prog w = .ok (202, .agg #[]) w := by kernel_rfl
theorem normalState_block (w : World) : Calls Tryz.prog 198 #[.agg #[]] w fun e w' => e = .returned (.agg #[.int .i64 0, .bool false, .bool false]) ∧ Below w.heap.size w w' := by
  go_enter Tryz.func198, Tryz.ntmps198
  go_wp2_with fail
  exact bodyPost_ret (v := .agg #[.int .i64 0, .bool false, .bool false]) (by simp [results, Tryz.results198, go_sem]) rfl ⟨rfl, ((Below.refl _ _).alloc (Nat.le_refl _) _).alloc (by simp) _⟩
theorem offeredState_block (w : World) : Calls Tryz.prog 199 #[.agg #[]] w fun e w' => e = .returned (.agg #[.int .i64 0, .bool false, .bool true]) ∧ Below w.heap.size w w' := by
  go_enter Tryz.func199, Tryz.ntmps199
  go_wp2_with fail
  exact bodyPost_ret (v := .agg #[.int .i64 0, .bool false, .bool true]) (by simp [results, Tryz.results199, go_sem]) rfl ⟨rfl, ((Below.refl _ _).alloc (Nat.le_refl _) _).alloc (by simp) _⟩
theorem clearState_block (w : World) : Calls Tryz.prog 200 #[.agg #[]] w fun e w' => e = .returned (.agg #[.int .i64 1, .bool false, .bool false]) ∧ Below w.heap.size w w' := by
  go_enter Tryz.func200, Tryz.ntmps200
  go_wp2_with fail
  exact bodyPost_ret (v := .agg #[.int .i64 1, .bool false, .bool false]) (by simp [results, Tryz.results200, go_sem]) rfl ⟨rfl, ((Below.refl _ _).alloc (Nat.le_refl _) _).alloc (by simp) _⟩
theorem insideState_block (w : World) : Calls Tryz.prog 201 #[.agg #[]] w fun e w' => e = .returned (.agg #[.int .i64 2, .bool true, .bool false]) ∧ Below w.heap.size w w' := by
  go_enter Tryz.func201, Tryz.ntmps201
  go_wp2_with fail
  exact bodyPost_ret (v := .agg #[.int .i64 2, .bool true, .bool false]) (by simp [results, Tryz.results201, go_sem]) rfl ⟨rfl, ((Below.refl _ _).alloc (Nat.le_refl _) _).alloc (by simp) _⟩
theorem passedState_block (w : World) : Calls Tryz.prog 202 #[.agg #[]] w fun e w' => e = .returned (.agg #[.int .i64 2, .bool false, .bool false]) ∧ Below w.heap.size w w' := by
  go_enter Tryz.func202, Tryz.ntmps202
  go_wp2_with fail
  exact bodyPost_ret (v := .agg #[.int .i64 2, .bool false, .bool false]) (by simp [results, Tryz.results202, go_sem]) rfl ⟨rfl, ((Below.refl _ _).alloc (Nat.le_refl _) _).alloc (by simp) _⟩

/-- the state with a number as an interface value -/
def ifV : Nat → Value
  | 0 => .iface 133 (.agg #[])
  | 1 => .iface 134 (.agg #[])
  | 2 => .iface 135 (.agg #[])
  | 3 => .iface 136 (.agg #[])
  | _ => .iface 137 (.agg #[])
def allI : Array Value := #[.iface 133 (.agg #[]), .iface 134 (.agg #[]), .iface 135 (.agg #[]), .iface 136 (.agg #[]), .iface 137 (.agg #[])]
/-- the boxes of the search -/
structure InM (w wr : World) (n : Int) (i o : Bool) : Prop where
  box : Bx wr w.heap.size 76 #[.int .i64 n, .bool i, .bool o]
  lit : Bx wr (w.heap.size + 1) 103 allI
  bl : Below w.heap.size w wr
theorem InM.below {w wr w' : World} {n : Int} {i o : Bool} {B : Nat} (h : InM w wr n i o) (hb : Below B wr w') (hB : B = wr.heap.size) : InM w w' n i o := by
  subst hB
  exact ⟨h.box.below hb h.box.lt, h.lit.below hb h.lit.lt, h.bl.trans (hb.mono h.bl.size)⟩
/-- a block is that of a state -/
def bkE (k : Nat) (n : Int) (i o : Bool) : Bool := decide ((stB k).n = n) && (decide ((stB k).i = i) && decide ((stB k).o = o))
theorem bkq0 {n : Int} {i o b : Bool} (h : bkE 0 n i o = b) (w : World) : (if 0 = n then (if i = true then Result.ok (Next.value (Value.bool false)) w else if o = true then Result.ok (Next.value (Value.bool false)) w else Result.ok (Next.value (Value.bool true)) w) else Result.ok (Next.value (Value.bool false)) w) = Result.ok (Next.value (Value.bool b)) w := by
  subst h
  cases i <;> cases o <;> by_cases h0 : (0 : Int) = n <;> simp [bkE, stB, h0]
theorem bkq1 {n : Int} {i o b : Bool} (h : bkE 1 n i o = b) (w : World) : (if 0 = n then (if i = true then Result.ok (Next.value (Value.bool false)) w else if o = false then Result.ok (Next.value (Value.bool false)) w else Result.ok (Next.value (Value.bool true)) w) else Result.ok (Next.value (Value.bool false)) w) = Result.ok (Next.value (Value.bool b)) w := by
  subst h
  cases i <;> cases o <;> by_cases h0 : (0 : Int) = n <;> simp [bkE, stB, h0]
theorem bkq2 {n : Int} {i o b : Bool} (h : bkE 2 n i o = b) (w : World) : (if 1 = n then (if i = true then Result.ok (Next.value (Value.bool false)) w else if o = true then Result.ok (Next.value (Value.bool false)) w else Result.ok (Next.value (Value.bool true)) w) else Result.ok (Next.value (Value.bool false)) w) = Result.ok (Next.value (Value.bool b)) w := by
  subst h
  cases i <;> cases o <;> by_cases h0 : (1 : Int) = n <;> simp [bkE, stB, h0]
theorem bkq3 {n : Int} {i o b : Bool} (h : bkE 3 n i o = b) (w : World) : (if 2 = n then (if i = false then Result.ok (Next.value (Value.bool false)) w else if o = true then Result.ok (Next.value (Value.bool false)) w else Result.ok (Next.value (Value.bool true)) w) else Result.ok (Next.value (Value.bool false)) w) = Result.ok (Next.value (Value.bool b)) w := by
  subst h
  cases i <;> cases o <;> by_cases h0 : (2 : Int) = n <;> simp [bkE, stB, h0]
theorem bkq4 {n : Int} {i o b : Bool} (h : bkE 4 n i o = b) (w : World) : (if 2 = n then (if i = true then Result.ok (Next.value (Value.bool false)) w else if o = true then Result.ok (Next.value (Value.bool false)) w else Result.ok (Next.value (Value.bool true)) w) else Result.ok (Next.value (Value.bool false)) w) = Result.ok (Next.value (Value.bool b)) w := by
  subst h
  cases i <;> cases o <;> by_cases h0 : (2 : Int) = n <;> simp [bkE, stB, h0]
/-- the number of a block's state; 5 where there is none -/
def stI (n : Int) (i o : Bool) : Nat := if bkE 0 n i o = true then 0 else if bkE 1 n i o = true then 1 else if bkE 2 n i o = true then 2 else if bkE 3 n i o = true then 3 else if bkE 4 n i o = true then 4 else 5
/-- what instrumentOf hands back -/
def inV (k : Nat) : Value := if k < 5 then ifV k else .nilIface
theorem stI_at {n : Int} {i o : Bool} {k : Nat} (hk : k < 5) (h : bkE k n i o = true) (hn : ∀ j, j < k → bkE j n i o = false) : stI n i o = k := by
  have h5 : k = 0 ∨ k = 1 ∨ k = 2 ∨ k = 3 ∨ k = 4 := by omega
  unfold stI
  rcases h5 with rfl | rfl | rfl | rfl | rfl
  · rw [if_pos h]
  · rw [hn 0 (by omega), if_neg (by simp), if_pos h]
  · rw [hn 0 (by omega), hn 1 (by omega), if_neg (by simp), if_neg (by simp), if_pos h]
  · rw [hn 0 (by omega), hn 1 (by omega), hn 2 (by omega), if_neg (by simp), if_neg (by simp), if_neg (by simp), if_pos h]
  · rw [hn 0 (by omega), hn 1 (by omega), hn 2 (by omega), hn 3 (by omega), if_neg (by simp), if_neg (by simp), if_neg (by simp), if_neg (by simp), if_pos h]
theorem stI_no {n : Int} {i o : Bool} (hn : ∀ j, j < 5 → bkE j n i o = false) : stI n i o = 5 := by
  unfold stI
  rw [hn 0 (by omega), hn 1 (by omega), hn 2 (by omega), hn 3 (by omega), hn 4 (by omega)]
  simp
set_option linter.unusedSimpArgs false in
set_option maxRecDepth 100000 in
set_option maxHeartbeats 4000000 in
theorem instr_any (n : Int) (i o : Bool) (w : World) :
    Calls Tryz.prog 66 #[.agg #[.int .i64 n, .bool i, .bool o]] w fun e w' => e = .returned (.tuple #[inV (stI n i o), .bool (decide (stI n i o < 5))]) ∧ Below w.heap.size w w' := by
  go_enter Tryz.func66, Tryz.ntmps66
  go_wp2_with fail
  go_loopw [20] (fun s wr => ∃ k : Nat, k ≤ 5 ∧ s = .int .i64 k ∧ Hid (∀ j, j < k → bkE j n i o = false) ∧ InM w wr n i o) (fun s _ => 5 - (intOf s).toNat)
  case atStart => exact ⟨0, by omega, rfl, Lib.hid (fun j hj => by omega), ⟨(Bx.new _ _ _).alloc _, Bx.newAt (by simp), ((Below.refl _ _).alloc (Nat.le_refl _) _).alloc (by simp) _⟩⟩
  case round =>
    obtain ⟨k, hk, rfl, HA, hm⟩ := hrel
    have HM := Lib.hid hm
    have hbx := hm.box.cell
    have hlx := hm.lit.cell
    clear hm
    have h5 : k = 0 ∨ k = 1 ∨ k = 2 ∨ k = 3 ∨ k = 4 ∨ k = 5 := by omega
    rcases h5 with rfl | rfl | rfl | rfl | rfl | rfl
    · have hl0 : wr.cell? ⟨w.heap.size + 1, 0, none⟩ = some (.iface 133 (.agg #[])) := hlx 0
      have hme := fun (f : Nat) (w : World) => normalState_meth f w
      clear hlx
      cases he : bkE 0 n i o
      · have HE := Lib.hid he
        clear he
        go_wp2_with fail
        refine wp_region_held_drew (S := (fun w' => w'.cell? ⟨w.heap.size, 0, none⟩ = some (.int .i64 n) ∧ w'.cell? ⟨w.heap.size, 1, none⟩ = some (.bool i) ∧ w'.cell? ⟨w.heap.size, 2, none⟩ = some (.bool o))) (by kernel_rfl) ?_ (fun hHeld => ?_)
        · try dsimp only
          go_keep
        refine wpAnyH_take (i := 0) (oi := ?_) (v := ?_) ?_ (by kernel_rfl) (by kernel_rfl) (by kernel_rfl) ?_ ?_ (by assumption) ?_
        rotate_left 2
        · simp only [List.getElem?_toArray, List.getElem?_cons_succ, List.getElem?_cons_zero]; rfl
        · exact fun _ _ _ h => h
        · first
            | (refine Or.inr ⟨?_, ?_⟩ <;> rfl)
            | (refine Or.inl ⟨?_, ?_⟩; · rfl
               intro w hSw; (try dsimp only at hSw); go_simp; (try with_reducible rfl); done)
        try simp only [Act.put, List.setIfInBounds_toArray, List.set_cons_zero, List.set_cons_succ]
        refine wpAnyH_take (i := 2) (oi := ?_) (v := ?_) ?_ (by kernel_rfl) (by kernel_rfl) (by kernel_rfl) ?_ ?_ (by assumption) ?_
        rotate_left 2
        · simp only [List.getElem?_toArray, List.getElem?_cons_succ, List.getElem?_cons_zero]; rfl
        · exact fun _ _ _ h => h
        · first
            | (refine Or.inr ⟨?_, ?_⟩ <;> rfl)
            | (refine Or.inl ⟨?_, ?_⟩; · rfl
               intro w hSw; (try dsimp only at hSw); go_simp; (try with_reducible rfl); done)
        try simp only [Act.put, List.setIfInBounds_toArray, List.set_cons_zero, List.set_cons_succ]
        refine wpAnyH_ready (rs := [1]) (by kernel_rfl) (by simp) ?_
        refine AllReadyH.cons (o := ?_) ?_ (fun K hK => ?_) AllReadyH.nil
        rotate_left 1
        · simp only [List.getElem?_toArray, List.getElem?_cons_succ, List.getElem?_cons_zero]; rfl
        go_simp
        go_at_call 198
        go_must (refine Calls.mono (normalState_block _) ?_)
        rintro e w2 ⟨rfl, hb⟩
        have HM2 := Lib.hid (HM.out.below ((Below.refl _ wr).drew.trans (hb.mono (by exact Nat.le_refl _))) rfl)
        have hbx2 := HM2.out.box.cell
        clear hb
        refine hK.out _ _ ?_ (fun hHeld => ?_)
        · try dsimp only
          go_keep
        clear hK K
        try simp only [Act.put, List.setIfInBounds_toArray, List.set_cons_zero, List.set_cons_succ]
        refine wpAnyH_take (i := 3) (oi := ?_) (v := ?_) ?_ (by kernel_rfl) (by kernel_rfl) (by kernel_rfl) ?_ ?_ (by assumption) ?_
        rotate_left 2
        · simp only [List.getElem?_toArray, List.getElem?_cons_succ, List.getElem?_cons_zero]; rfl
        · exact fun _ _ _ h => h
        · refine Or.inl ⟨?_, ?_⟩
          · rfl
          · intro w hSw; (try dsimp only at hSw); go_simp; exact bkq0 HE.out _
        try simp only [Act.put, List.setIfInBounds_toArray, List.set_cons_zero, List.set_cons_succ]
        refine wpAnyH_done (by kernel_rfl) ?_ _
        go_wp2_with fail
        go_roundw
        case rel => exact ⟨0 + 1, by omega, by first | rfl | go_num, Lib.hid (fun j hj => by
          by_cases e : j = 0
          · rw [e]; exact HE.out
          · exact HA.out j (by omega)), HM2.out⟩
        case measure => simp [intOf]
      · have HE := Lib.hid he
        clear he
        go_wp2_with fail
        refine wp_region_held_drew (S := (fun w' => w'.cell? ⟨w.heap.size, 0, none⟩ = some (.int .i64 n) ∧ w'.cell? ⟨w.heap.size, 1, none⟩ = some (.bool i) ∧ w'.cell? ⟨w.heap.size, 2, none⟩ = some (.bool o))) (by kernel_rfl) ?_ (fun hHeld => ?_)
        · try dsimp only
          go_keep
        refine wpAnyH_take (i := 0) (oi := ?_) (v := ?_) ?_ (by kernel_rfl) (by kernel_rfl) (by kernel_rfl) ?_ ?_ (by assumption) ?_
        rotate_left 2
        · simp only [List.getElem?_toArray, List.getElem?_cons_succ, List.getElem?_cons_zero]; rfl
        · exact fun _ _ _ h => h
        · first
            | (refine Or.inr ⟨?_, ?_⟩ <;> rfl)
            | (refine Or.inl ⟨?_, ?_⟩; · rfl
               intro w hSw; (try dsimp only at hSw); go_simp; (try with_reducible rfl); done)
        try simp only [Act.put, List.setIfInBounds_toArray, List.set_cons_zero, List.set_cons_succ]
        refine wpAnyH_take (i := 2) (oi := ?_) (v := ?_) ?_ (by kernel_rfl) (by kernel_rfl) (by kernel_rfl) ?_ ?_ (by assumption) ?_
        rotate_left 2
        · simp only [List.getElem?_toArray, List.getElem?_cons_succ, List.getElem?_cons_zero]; rfl
        · exact fun _ _ _ h => h
        · first
            | (refine Or.inr ⟨?_, ?_⟩ <;> rfl)
            | (refine Or.inl ⟨?_, ?_⟩; · rfl
               intro w hSw; (try dsimp only at hSw); go_simp; (try with_reducible rfl); done)
        try simp only [Act.put, List.setIfInBounds_toArray, List.set_cons_zero, List.set_cons_succ]
        refine wpAnyH_ready (rs := [1]) (by kernel_rfl) (by simp) ?_
        refine AllReadyH.cons (o := ?_) ?_ (fun K hK => ?_) AllReadyH.nil
        rotate_left 1
        · simp only [List.getElem?_toArray, List.getElem?_cons_succ, List.getElem?_cons_zero]; rfl
        go_simp
        go_at_call 198
        go_must (refine Calls.mono (normalState_block _) ?_)
        rintro e w2 ⟨rfl, hb⟩
        have HM2 := Lib.hid (HM.out.below ((Below.refl _ wr).drew.trans (hb.mono (by exact Nat.le_refl _))) rfl)
        have hbx2 := HM2.out.box.cell
        clear hb
        refine hK.out _ _ ?_ (fun hHeld => ?_)
        · try dsimp only
          go_keep
        clear hK K
        try simp only [Act.put, List.setIfInBounds_toArray, List.set_cons_zero, List.set_cons_succ]
        refine wpAnyH_take (i := 3) (oi := ?_) (v := ?_) ?_ (by kernel_rfl) (by kernel_rfl) (by kernel_rfl) ?_ ?_ (by assumption) ?_
        rotate_left 2
        · simp only [List.getElem?_toArray, List.getElem?_cons_succ, List.getElem?_cons_zero]; rfl
        · exact fun _ _ _ h => h
        · refine Or.inl ⟨?_, ?_⟩
          · rfl
          · intro w hSw; (try dsimp only at hSw); go_simp; exact bkq0 HE.out _
        try simp only [Act.put, List.setIfInBounds_toArray, List.set_cons_zero, List.set_cons_succ]
        refine wpAnyH_done (by kernel_rfl) ?_ _
        go_wp2_with fail
        go_ret2
        exact ⟨by rw [stI_at (by omega) HE.out HA.out]; rfl, HM2.out.bl⟩
    · have hl0 : wr.cell? ⟨w.heap.size + 1, 1, none⟩ = some (.iface 134 (.agg #[])) := hlx 1
      have hme := fun (f : Nat) (w : World) => offeredState_meth f w
      clear hlx
      cases he : bkE 1 n i o
      · have HE := Lib.hid he
        clear he
        go_wp2_with fail
        refine wp_region_held_drew (S := (fun w' => w'.cell? ⟨w.heap.size, 0, none⟩ = some (.int .i64 n) ∧ w'.cell? ⟨w.heap.size, 1, none⟩ = some (.bool i) ∧ w'.cell? ⟨w.heap.size, 2, none⟩ = some (.bool o))) (by kernel_rfl) ?_ (fun hHeld => ?_)
        · try dsimp only
          go_keep
        refine wpAnyH_take (i := 0) (oi := ?_) (v := ?_) ?_ (by kernel_rfl) (by kernel_rfl) (by kernel_rfl) ?_ ?_ (by assumption) ?_
        rotate_left 2
        · simp only [List.getElem?_toArray, List.getElem?_cons_succ, List.getElem?_cons_zero]; rfl
        · exact fun _ _ _ h => h
        · first
            | (refine Or.inr ⟨?_, ?_⟩ <;> rfl)
            | (refine Or.inl ⟨?_, ?_⟩; · rfl
               intro w hSw; (try dsimp only at hSw); go_simp; (try with_reducible rfl); done)
        try simp only [Act.put, List.setIfInBounds_toArray, List.set_cons_zero, List.set_cons_succ]
        refine wpAnyH_take (i := 2) (oi := ?_) (v := ?_) ?_ (by kernel_rfl) (by kernel_rfl) (by kernel_rfl) ?_ ?_ (by assumption) ?_
        rotate_left 2
        · simp only [List.getElem?_toArray, List.getElem?_cons_succ, List.getElem?_cons_zero]; rfl
        · exact fun _ _ _ h => h
        · first
            | (refine Or.inr ⟨?_, ?_⟩ <;> rfl)
            | (refine Or.inl ⟨?_, ?_⟩; · rfl
               intro w hSw; (try dsimp only at hSw); go_simp; (try with_reducible rfl); done)
        try simp only [Act.put, List.setIfInBounds_toArray, List.set_cons_zero, List.set_cons_succ]
        refine wpAnyH_ready (rs := [1]) (by kernel_rfl) (by simp) ?_
        refine AllReadyH.cons (o := ?_) ?_ (fun K hK => ?_) AllReadyH.nil
        rotate_left 1
        · simp only [List.getElem?_toArray, List.getElem?_cons_succ, List.getElem?_cons_zero]; rfl
        go_simp
        go_at_call 199
        go_must (refine Calls.mono (offeredState_block _) ?_)
        rintro e w2 ⟨rfl, hb⟩
        have HM2 := Lib.hid (HM.out.below ((Below.refl _ wr).drew.trans (hb.mono (by exact Nat.le_refl _))) rfl)
        have hbx2 := HM2.out.box.cell
        clear hb
        refine hK.out _ _ ?_ (fun hHeld => ?_)
        · try dsimp only
          go_keep
        clear hK K
        try simp only [Act.put, List.setIfInBounds_toArray, List.set_cons_zero, List.set_cons_succ]
        refine wpAnyH_take (i := 3) (oi := ?_) (v := ?_) ?_ (by kernel_rfl) (by kernel_rfl) (by kernel_rfl) ?_ ?_ (by assumption) ?_
        rotate_left 2
        · simp only [List.getElem?_toArray, List.getElem?_cons_succ, List.getElem?_cons_zero]; rfl
        · exact fun _ _ _ h => h
        · refine Or.inl ⟨?_, ?_⟩
          · rfl
          · intro w hSw; (try dsimp only at hSw); go_simp; exact bkq1 HE.out _
        try simp only [Act.put, List.setIfInBounds_toArray, List.set_cons_zero, List.set_cons_succ]
        refine wpAnyH_done (by kernel_rfl) ?_ _
        go_wp2_with fail
        go_roundw
        case rel => exact ⟨1 + 1, by omega, by first | rfl | go_num, Lib.hid (fun j hj => by
          by_cases e : j = 1
          · rw [e]; exact HE.out
          · exact HA.out j (by omega)), HM2.out⟩
        case measure => simp [intOf]
      · have HE := Lib.hid he
        clear he
        go_wp2_with fail
        refine wp_region_held_drew (S := (fun w' => w'.cell? ⟨w.heap.size, 0, none⟩ = some (.int .i64 n) ∧ w'.cell? ⟨w.heap.size, 1, none⟩ = some (.bool i) ∧ w'.cell? ⟨w.heap.size, 2, none⟩ = some (.bool o))) (by kernel_rfl) ?_ (fun hHeld => ?_)
        · try dsimp only
          go_keep
        refine wpAnyH_take (i := 0) (oi := ?_) (v := ?_) ?_ (by kernel_rfl) (by kernel_rfl) (by kernel_rfl) ?_ ?_ (by assumption) ?_
        rotate_left 2
        · simp only [List.getElem?_toArray, List.getElem?_cons_succ, List.getElem?_cons_zero]; rfl
        · exact fun _ _ _ h => h
        · first
            | (refine Or.inr ⟨?_, ?_⟩ <;> rfl)
            | (refine Or.inl ⟨?_, ?_⟩; · rfl
               intro w hSw; (try dsimp only at hSw); go_simp; (try with_reducible rfl); done)
        try simp only [Act.put, List.setIfInBounds_toArray, List.set_cons_zero, List.set_cons_succ]
        refine wpAnyH_take (i := 2) (oi := ?_) (v := ?_) ?_ (by kernel_rfl) (by kernel_rfl) (by kernel_rfl) ?_ ?_ (by assumption) ?_
        rotate_left 2
        · simp only [List.getElem?_toArray, List.getElem?_cons_succ, List.getElem?_cons_zero]; rfl
        · exact fun _ _ _ h => h
        · first
            | (refine Or.inr ⟨?_, ?_⟩ <;> rfl)
            | (refine Or.inl ⟨?_, ?_⟩; · rfl
               intro w hSw; (try dsimp only at hSw); go_simp; (try with_reducible rfl); done)
        try simp only [Act.put, List.setIfInBounds_toArray, List.set_cons_zero, List.set_cons_succ]
        refine wpAnyH_ready (rs := [1]) (by kernel_rfl) (by simp) ?_
        refine AllReadyH.cons (o := ?_) ?_ (fun K hK => ?_) AllReadyH.nil
        rotate_left 1
        · simp only [List.getElem?_toArray, List.getElem?_cons_succ, List.getElem?_cons_zero]; rfl
        go_simp
        go_at_call 199
        go_must (refine Calls.mono (offeredState_block _) ?_)
        rintro e w2 ⟨rfl, hb⟩
        have HM2 := Lib.hid (HM.out.below ((Below.refl _ wr).drew.trans (hb.mono (by exact Nat.le_refl _))) rfl)
        have hbx2 := HM2.out.box.cell
        clear hb
        refine hK.out _ _ ?_ (fun hHeld => ?_)
        · try dsimp only
          go_keep
        clear hK K
        try simp only [Act.put, List.setIfInBounds_toArray, List.set_cons_zero, List.set_cons_succ]
        refine wpAnyH_take (i := 3) (oi := ?_) (v := ?_) ?_ (by kernel_rfl) (by kernel_rfl) (by kernel_rfl) ?_ ?_ (by assumption) ?_
        rotate_left 2
        · simp only [List.getElem?_toArray, List.getElem?_cons_succ, List.getElem?_cons_zero]; rfl
        · exact fun _ _ _ h => h
        · refine Or.inl ⟨?_, ?_⟩
          · rfl
          · intro w hSw; (try dsimp only at hSw); go_simp; exact bkq1 HE.out _
        try simp only [Act.put, List.setIfInBounds_toArray, List.set_cons_zero, List.set_cons_succ]
        refine wpAnyH_done (by kernel_rfl) ?_ _
        go_wp2_with fail
        go_ret2
        exact ⟨by rw [stI_at (by omega) HE.out HA.out]; rfl, HM2.out.bl⟩
    · have hl0 : wr.cell? ⟨w.heap.size + 1, 2, none⟩ = some (.iface 135 (.agg #[])) := hlx 2
      have hme := fun (f : Nat) (w : World) => clearState_meth f w
      clear hlx
      cases he : bkE 2 n i o
      · have HE := Lib.hid he
        clear he
        go_wp2_with fail
        refine wp_region_held_drew (S := (fun w' => w'.cell? ⟨w.heap.size, 0, none⟩ = some (.int .i64 n) ∧ w'.cell? ⟨w.heap.size, 1, none⟩ = some (.bool i) ∧ w'.cell? ⟨w.heap.size, 2, none⟩ = some (.bool o))) (by kernel_rfl) ?_ (fun hHeld => ?_)
        · try dsimp only
          go_keep
        refine wpAnyH_take (i := 0) (oi := ?_) (v := ?_) ?_ (by kernel_rfl) (by kernel_rfl) (by kernel_rfl) ?_ ?_ (by assumption) ?_
        rotate_left 2
        · simp only [List.getElem?_toArray, List.getElem?_cons_succ, List.getElem?_cons_zero]; rfl
        · exact fun _ _ _ h => h
        · first
            | (refine Or.inr ⟨?_, ?_⟩ <;> rfl)
            | (refine Or.inl ⟨?_, ?_⟩; · rfl
               intro w hSw; (try dsimp only at hSw); go_simp; (try with_reducible rfl); done)
        try simp only [Act.put, List.setIfInBounds_toArray, List.set_cons_zero, List.set_cons_succ]
        refine wpAnyH_take (i := 2) (oi := ?_) (v := ?_) ?_ (by kernel_rfl) (by kernel_rfl) (by kernel_rfl) ?_ ?_ (by assumption) ?_
        rotate_left 2
        · simp only [List.getElem?_toArray, List.getElem?_cons_succ, List.getElem?_cons_zero]; rfl
        · exact fun _ _ _ h => h
        · first
            | (refine Or.inr ⟨?_, ?_⟩ <;> rfl)
            | (refine Or.inl ⟨?_, ?_⟩; · rfl
               intro w hSw; (try dsimp only at hSw); go_simp; (try with_reducible rfl); done)
        try simp only [Act.put, List.setIfInBounds_toArray, List.set_cons_zero, List.set_cons_succ]
        refine wpAnyH_ready (rs := [1]) (by kernel_rfl) (by simp) ?_
        refine AllReadyH.cons (o := ?_) ?_ (fun K hK => ?_) AllReadyH.nil
        rotate_left 1
        · simp only [List.getElem?_toArray, List.getElem?_cons_succ, List.getElem?_cons_zero]; rfl
        go_simp
        go_at_call 200
        go_must (refine Calls.mono (clearState_block _) ?_)
        rintro e w2 ⟨rfl, hb⟩
        have HM2 := Lib.hid (HM.out.below ((Below.refl _ wr).drew.trans (hb.mono (by exact Nat.le_refl _))) rfl)
        have hbx2 := HM2.out.box.cell
        clear hb
        refine hK.out _ _ ?_ (fun hHeld => ?_)
        · try dsimp only
          go_keep
        clear hK K
        try simp only [Act.put, List.setIfInBounds_toArray, List.set_cons_zero, List.set_cons_succ]
        refine wpAnyH_take (i := 3) (oi := ?_) (v := ?_) ?_ (by kernel_rfl) (by kernel_rfl) (by kernel_rfl) ?_ ?_ (by assumption) ?_
        rotate_left 2
        · simp only [List.getElem?_toArray, List.getElem?_cons_succ, List.getElem?_cons_zero]; rfl
        · exact fun _ _ _ h => h
        · refine Or.inl ⟨?_, ?_⟩
          · rfl
          · intro w hSw; (try dsimp only at hSw); go_simp; exact bkq2 HE.out _
        try simp only [Act.put, List.setIfInBounds_toArray, List.set_cons_zero, List.set_cons_succ]
        refine wpAnyH_done (by kernel_rfl) ?_ _
        go_wp2_with fail
        go_roundw
        case rel => exact ⟨2 + 1, by omega, by first | rfl | go_num, Lib.hid (fun j hj => by
          by_cases e : j = 2
          · rw [e]; exact HE.out
          · exact HA.out j (by omega)), HM2.out⟩
        case measure => simp [intOf]
      · have HE := Lib.hid he
        clear he
        go_wp2_with fail
        refine wp_region_held_drew (S := (fun w' => w'.cell? ⟨w.heap.size, 0, none⟩ = some (.int .i64 n) ∧ w'.cell? ⟨w.heap.size, 1, none⟩ = some (.bool i) ∧ w'.cell? ⟨w.heap.size, 2, none⟩ = some (.bool o))) (by kernel_rfl) ?_ (fun hHeld => ?_)
        · try dsimp only
          go_keep
        refine wpAnyH_take (i := 0) (oi := ?_) (v := ?_) ?_ (by kernel_rfl) (by kernel_rfl) (by kernel_rfl) ?_ ?_ (by assumption) ?_
        rotate_left 2
        · simp only [List.getElem?_toArray, List.getElem?_cons_succ, List.getElem?_cons_zero]; rfl
        · exact fun _ _ _ h => h
        · first
            | (refine Or.inr ⟨?_, ?_⟩ <;> rfl)
            | (refine Or.inl ⟨?_, ?_⟩; · rfl
               intro w hSw; (try dsimp only at hSw); go_simp; (try with_reducible rfl); done)
        try simp only [Act.put, List.setIfInBounds_toArray, List.set_cons_zero, List.set_cons_succ]
        refine wpAnyH_take (i := 2) (oi := ?_) (v := ?_) ?_ (by kernel_rfl) (by kernel_rfl) (by kernel_rfl) ?_ ?_ (by assumption) ?_
        rotate_left 2
        · simp only [List.getElem?_toArray, List.getElem?_cons_succ, List.getElem?_cons_zero]; rfl
        · exact fun _ _ _ h => h
        · first
            | (refine Or.inr ⟨?_, ?_⟩ <;> rfl)
            | (refine Or.inl ⟨?_, ?_⟩; · rfl
               intro w hSw; (try dsimp only at hSw); go_simp; (try with_reducible rfl); done)
        try simp only [Act.put, List.setIfInBounds_toArray, List.set_cons_zero, List.set_cons_succ]
        refine wpAnyH_ready (rs := [1]) (by kernel_rfl) (by simp) ?_
        refine AllReadyH.cons (o := ?_) ?_ (fun K hK => ?_) AllReadyH.nil
        rotate_left 1
        · simp only [List.getElem?_toArray, List.getElem?_cons_succ, List.getElem?_cons_zero]; rfl
        go_simp
        go_at_call 200
        go_must (refine Calls.mono (clearState_block _) ?_)
        rintro e w2 ⟨rfl, hb⟩
        have HM2 := Lib.hid (HM.out.below ((Below.refl _ wr).drew.trans (hb.mono (by exact Nat.le_refl _))) rfl)
        have hbx2 := HM2.out.box.cell
        clear hb
        refine hK.out _ _ ?_ (fun hHeld => ?_)
        · try dsimp only
          go_keep
        clear hK K
        try simp only [Act.put, List.setIfInBounds_toArray, List.set_cons_zero, List.set_cons_succ]
        refine wpAnyH_take (i := 3) (oi := ?_) (v := ?_) ?_ (by kernel_rfl) (by kernel_rfl) (by kernel_rfl) ?_ ?_ (by assumption) ?_
        rotate_left 2
        · simp only [List.getElem?_toArray, List.getElem?_cons_succ, List.getElem?_cons_zero]; rfl
        · exact fun _ _ _ h => h
        · refine Or.inl ⟨?_, ?_⟩
          · rfl
          · intro w hSw; (try dsimp only at hSw); go_simp; exact bkq2 HE.out _
        try simp only [Act.put, List.setIfInBounds_toArray, List.set_cons_zero, List.set_cons_succ]
        refine wpAnyH_done (by kernel_rfl) ?_ _
        go_wp2_with fail
        go_ret2
        exact ⟨by rw [stI_at (by omega) HE.out HA.out]; rfl, HM2.out.bl⟩
    · have hl0 : wr.cell? ⟨w.heap.size + 1, 3, none⟩ = some (.iface 136 (.agg #[])) := hlx 3
      have hme := fun (f : Nat) (w : World) => insideState_meth f w
      clear hlx
      cases he : bkE 3 n i o
      · have HE := Lib.hid he
        clear he
        go_wp2_with fail
        refine wp_region_held_drew (S := (fun w' => w'.cell? ⟨w.heap.size, 0, none⟩ = some (.int .i64 n) ∧ w'.cell? ⟨w.heap.size, 1, none⟩ = some (.bool i) ∧ w'.cell? ⟨w.heap.size, 2, none⟩ = some (.bool o))) (by kernel_rfl) ?_ (fun hHeld => ?_)
        · try dsimp only
          go_keep
        refine wpAnyH_take (i := 0) (oi := ?_) (v := ?_) ?_ (by kernel_rfl) (by kernel_rfl) (by kernel_rfl) ?_ ?_ (by assumption) ?_
        rotate_left 2
        · simp only [List.getElem?_toArray, List.getElem?_cons_succ, List.getElem?_cons_zero]; rfl
        · exact fun _ _ _ h => h
        · first
            | (refine Or.inr ⟨?_, ?_⟩ <;> rfl)
            | (refine Or.inl ⟨?_, ?_⟩; · rfl
               intro w hSw; (try dsimp only at hSw); go_simp; (try with_reducible rfl); done)
        try simp only [Act.put, List.setIfInBounds_toArray, List.set_cons_zero, List.set_cons_succ]
        refine wpAnyH_take (i := 2) (oi := ?_) (v := ?_) ?_ (by kernel_rfl) (by kernel_rfl) (by kernel_rfl) ?_ ?_ (by assumption) ?_
        rotate_left 2
        · simp only [List.getElem?_toArray, List.getElem?_cons_succ, List.getElem?_cons_zero]; rfl
        · exact fun _ _ _ h => h
        · first
            | (refine Or.inr ⟨?_, ?_⟩ <;> rfl)
            | (refine Or.inl ⟨?_, ?_⟩; · rfl
               intro w hSw; (try dsimp only at hSw); go_simp; (try with_reducible rfl); done)
        try simp only [Act.put, List.setIfInBounds_toArray, List.set_cons_zero, List.set_cons_succ]
        refine wpAnyH_ready (rs := [1]) (by kernel_rfl) (by simp) ?_
        refine AllReadyH.cons (o := ?_) ?_ (fun K hK => ?_) AllReadyH.nil
        rotate_left 1
        · simp only [List.getElem?_toArray, List.getElem?_cons_succ, List.getElem?_cons_zero]; rfl
        go_simp
        go_at_call 201
        go_must (refine Calls.mono (insideState_block _) ?_)
        rintro e w2 ⟨rfl, hb⟩
        have HM2 := Lib.hid (HM.out.below ((Below.refl _ wr).drew.trans (hb.mono (by exact Nat.le_refl _))) rfl)
        have hbx2 := HM2.out.box.cell
        clear hb
        refine hK.out _ _ ?_ (fun hHeld => ?_)
        · try dsimp only
          go_keep
        clear hK K
        try simp only [Act.put, List.setIfInBounds_toArray, List.set_cons_zero, List.set_cons_succ]
        refine wpAnyH_take (i := 3) (oi := ?_) (v := ?_) ?_ (by kernel_rfl) (by kernel_rfl) (by kernel_rfl) ?_ ?_ (by assumption) ?_
        rotate_left 2
        · simp only [List.getElem?_toArray, List.getElem?_cons_succ, List.getElem?_cons_zero]; rfl
        · exact fun _ _ _ h => h
        · refine Or.inl ⟨?_, ?_⟩
          · rfl
          · intro w hSw; (try dsimp only at hSw); go_simp; exact bkq3 HE.out _
        try simp only [Act.put, List.setIfInBounds_toArray, List.set_cons_zero, List.set_cons_succ]
        refine wpAnyH_done (by kernel_rfl) ?_ _
        go_wp2_with fail
        go_roundw
        case rel => exact ⟨3 + 1, by omega, by first | rfl | go_num, Lib.hid (fun j hj => by
          by_cases e : j = 3
          · rw [e]; exact HE.out
          · exact HA.out j (by omega)), HM2.out⟩
        case measure => simp [intOf]
      · have HE := Lib.hid he
        clear he
        go_wp2_with fail
        refine wp_region_held_drew (S := (fun w' => w'.cell? ⟨w.heap.size, 0, none⟩ = some (.int .i64 n) ∧ w'.cell? ⟨w.heap.size, 1, none⟩ = some (.bool i) ∧ w'.cell? ⟨w.heap.size, 2, none⟩ = some (.bool o))) (by kernel_rfl) ?_ (fun hHeld => ?_)
        · try dsimp only
          go_keep
        refine wpAnyH_take (i := 0) (oi := ?_) (v := ?_) ?_ (by kernel_rfl) (by kernel_rfl) (by kernel_rfl) ?_ ?_ (by assumption) ?_
        rotate_left 2
        · simp only [List.getElem?_toArray, List.getElem?_cons_succ, List.getElem?_cons_zero]; rfl
        · exact fun _ _ _ h => h
        · first
            | (refine Or.inr ⟨?_, ?_⟩ <;> rfl)
            | (refine Or.inl ⟨?_, ?_⟩; · rfl
               intro w hSw; (try dsimp only at hSw); go_simp; (try with_reducible rfl); done)
        try simp only [Act.put, List.setIfInBounds_toArray, List.set_cons_zero, List.set_cons_succ]
        refine wpAnyH_take (i := 2) (oi := ?_) (v := ?_) ?_ (by kernel_rfl) (by kernel_rfl) (by kernel_rfl) ?_ ?_ (by assumption) ?_
        rotate_left 2
        · simp only [List.getElem?_toArray, List.getElem?_cons_succ, List.getElem?_cons_zero]; rfl
        · exact fun _ _ _ h => h
        · first
            | (refine Or.inr ⟨?_, ?_⟩ <;> rfl)
            | (refine Or.inl ⟨?_, ?_⟩; · rfl
               intro w hSw; (try dsimp only at hSw); go_simp; (try with_reducible rfl); done)
        try simp only [Act.put, List.setIfInBounds_toArray, List.set_cons_zero, List.set_cons_succ]
        refine wpAnyH_ready (rs := [1]) (by kernel_rfl) (by simp) ?_
        refine AllReadyH.cons (o := ?_) ?_ (fun K hK => ?_) AllReadyH.nil
        rotate_left 1
        · simp only [List.getElem?_toArray, List.getElem?_cons_succ, List.getElem?_cons_zero]; rfl
        go_simp
        go_at_call 201
        go_must (refine Calls.mono (insideState_block _) ?_)
        rintro e w2 ⟨rfl, hb⟩
        have HM2 := Lib.hid (HM.out.below ((Below.refl _ wr).drew.trans (hb.mono (by exact Nat.le_refl _))) rfl)
        have hbx2 := HM2.out.box.cell
        clear hb
        refine hK.out _ _ ?_ (fun hHeld => ?_)
        · try dsimp only
          go_keep
        clear hK K
        try simp only [Act.put, List.setIfInBounds_toArray, List.set_cons_zero, List.set_cons_succ]
        refine wpAnyH_take (i := 3) (oi := ?_) (v := ?_) ?_ (by kernel_rfl) (by kernel_rfl) (by kernel_rfl) ?_ ?_ (by assumption) ?_
        rotate_left 2
        · simp only [List.getElem?_toArray, List.getElem?_cons_succ, List.getElem?_cons_zero]; rfl
        · exact fun _ _ _ h => h
        · refine Or.inl ⟨?_, ?_⟩
          · rfl
          · intro w hSw; (try dsimp only at hSw); go_simp; exact bkq3 HE.out _
        try simp only [Act.put, List.setIfInBounds_toArray, List.set_cons_zero, List.set_cons_succ]
        refine wpAnyH_done (by kernel_rfl) ?_ _
        go_wp2_with fail
        go_ret2
        exact ⟨by rw [stI_at (by omega) HE.out HA.out]; rfl, HM2.out.bl⟩
    · have hl0 : wr.cell? ⟨w.heap.size + 1, 4, none⟩ = some (.iface 137 (.agg #[])) := hlx 4
      have hme := fun (f : Nat) (w : World) => passedState_meth f w
      clear hlx
      cases he : bkE 4 n i o
      · have HE := Lib.hid he
        clear he
        go_wp2_with fail
        refine wp_region_held_drew (S := (fun w' => w'.cell? ⟨w.heap.size, 0, none⟩ = some (.int .i64 n) ∧ w'.cell? ⟨w.heap.size, 1, none⟩ = some (.bool i) ∧ w'.cell? ⟨w.heap.size, 2, none⟩ = some (.bool o))) (by kernel_rfl) ?_ (fun hHeld => ?_)
        · try dsimp only
          go_keep
        refine wpAnyH_take (i := 0) (oi := ?_) (v := ?_) ?_ (by kernel_rfl) (by kernel_rfl) (by kernel_rfl) ?_ ?_ (by assumption) ?_
        rotate_left 2
        · simp only [List.getElem?_toArray, List.getElem?_cons_succ, List.getElem?_cons_zero]; rfl
        · exact fun _ _ _ h => h
        · first
            | (refine Or.inr ⟨?_, ?_⟩ <;> rfl)
            | (refine Or.inl ⟨?_, ?_⟩; · rfl
               intro w hSw; (try dsimp only at hSw); go_simp; (try with_reducible rfl); done)
        try simp only [Act.put, List.setIfInBounds_toArray, List.set_cons_zero, List.set_cons_succ]
        refine wpAnyH_take (i := 2) (oi := ?_) (v := ?_) ?_ (by kernel_rfl) (by kernel_rfl) (by kernel_rfl) ?_ ?_ (by assumption) ?_
        rotate_left 2
        · simp only [List.getElem?_toArray, List.getElem?_cons_succ, List.getElem?_cons_zero]; rfl
        · exact fun _ _ _ h => h
        · first
            | (refine Or.inr ⟨?_, ?_⟩ <;> rfl)
            | (refine Or.inl ⟨?_, ?_⟩; · rfl
               intro w hSw; (try dsimp only at hSw); go_simp; (try with_reducible rfl); done)
        try simp only [Act.put, List.setIfInBounds_toArray, List.set_cons_zero, List.set_cons_succ]
        refine wpAnyH_ready (rs := [1]) (by kernel_rfl) (by simp) ?_
        refine AllReadyH.cons (o := ?_) ?_ (fun K hK => ?_) AllReadyH.nil
        rotate_left 1
        · simp only [List.getElem?_toArray, List.getElem?_cons_succ, List.getElem?_cons_zero]; rfl
        go_simp
        go_at_call 202
        go_must (refine Calls.mono (passedState_block _) ?_)
        rintro e w2 ⟨rfl, hb⟩
        have HM2 := Lib.hid (HM.out.below ((Below.refl _ wr).drew.trans (hb.mono (by exact Nat.le_refl _))) rfl)
        have hbx2 := HM2.out.box.cell
        clear hb
        refine hK.out _ _ ?_ (fun hHeld => ?_)
        · try dsimp only
          go_keep
        clear hK K
        try simp only [Act.put, List.setIfInBounds_toArray, List.set_cons_zero, List.set_cons_succ]
        refine wpAnyH_take (i := 3) (oi := ?_) (v := ?_) ?_ (by kernel_rfl) (by kernel_rfl) (by kernel_rfl) ?_ ?_ (by assumption) ?_
        rotate_left 2
        · simp only [List.getElem?_toArray, List.getElem?_cons_succ, List.getElem?_cons_zero]; rfl
        · exact fun _ _ _ h => h
        · refine Or.inl ⟨?_, ?_⟩
          · rfl
          · intro w hSw; (try dsimp only at hSw); go_simp; exact bkq4 HE.out _
        try simp only [Act.put, List.setIfInBounds_toArray, List.set_cons_zero, List.set_cons_succ]
        refine wpAnyH_done (by kernel_rfl) ?_ _
        go_wp2_with fail
        go_roundw
        case rel => exact ⟨4 + 1, by omega, by first | rfl | go_num, Lib.hid (fun j hj => by
          by_cases e : j = 4
          · rw [e]; exact HE.out
          · exact HA.out j (by omega)), HM2.out⟩
        case measure => simp [intOf]
      · have HE := Lib.hid he
        clear he
        go_wp2_with fail
        refine wp_region_held_drew (S := (fun w' => w'.cell? ⟨w.heap.size, 0, none⟩ = some (.int .i64 n) ∧ w'.cell? ⟨w.heap.size, 1, none⟩ = some (.bool i) ∧ w'.cell? ⟨w.heap.size, 2, none⟩ = some (.bool o))) (by kernel_rfl) ?_ (fun hHeld => ?_)
        · try dsimp only
          go_keep
        refine wpAnyH_take (i := 0) (oi := ?_) (v := ?_) ?_ (by kernel_rfl) (by kernel_rfl) (by kernel_rfl) ?_ ?_ (by assumption) ?_
        rotate_left 2
        · simp only [List.getElem?_toArray, List.getElem?_cons_succ, List.getElem?_cons_zero]; rfl
        · exact fun _ _ _ h => h
        · first
            | (refine Or.inr ⟨?_, ?_⟩ <;> rfl)
            | (refine Or.inl ⟨?_, ?_⟩; · rfl
               intro w hSw; (try dsimp only at hSw); go_simp; (try with_reducible rfl); done)
        try simp only [Act.put, List.setIfInBounds_toArray, List.set_cons_zero, List.set_cons_succ]
        refine wpAnyH_take (i := 2) (oi := ?_) (v := ?_) ?_ (by kernel_rfl) (by kernel_rfl) (by kernel_rfl) ?_ ?_ (by assumption) ?_
        rotate_left 2
        · simp only [List.getElem?_toArray, List.getElem?_cons_succ, List.getElem?_cons_zero]; rfl
        · exact fun _ _ _ h => h
        · first
            | (refine Or.inr ⟨?_, ?_⟩ <;> rfl)
            | (refine Or.inl ⟨?_, ?_⟩; · rfl
               intro w hSw; (try dsimp only at hSw); go_simp; (try with_reducible rfl); done)
        try simp only [Act.put, List.setIfInBounds_toArray, List.set_cons_zero, List.set_cons_succ]
        refine wpAnyH_ready (rs := [1]) (by kernel_rfl) (by simp) ?_
        refine AllReadyH.cons (o := ?_) ?_ (fun K hK => ?_) AllReadyH.nil
        rotate_left 1
        · simp only [List.getElem?_toArray, List.getElem?_cons_succ, List.getElem?_cons_zero]; rfl
        go_simp
        go_at_call 202
        go_must (refine Calls.mono (passedState_block _) ?_)
        rintro e w2 ⟨rfl, hb⟩
        have HM2 := Lib.hid (HM.out.below ((Below.refl _ wr).drew.trans (hb.mono (by exact Nat.le_refl _))) rfl)
        have hbx2 := HM2.out.box.cell
        clear hb
        refine hK.out _ _ ?_ (fun hHeld => ?_)
        · try dsimp only
          go_keep
        clear hK K
        try simp only [Act.put, List.setIfInBounds_toArray, List.set_cons_zero, List.set_cons_succ]
        refine wpAnyH_take (i := 3) (oi := ?_) (v := ?_) ?_ (by kernel_rfl) (by kernel_rfl) (by kernel_rfl) ?_ ?_ (by assumption) ?_
        rotate_left 2
        · simp only [List.getElem?_toArray, List.getElem?_cons_succ, List.getElem?_cons_zero]; rfl
        · exact fun _ _ _ h => h
        · refine Or.inl ⟨?_, ?_⟩
          · rfl
          · intro w hSw; (try dsimp only at hSw); go_simp; exact bkq4 HE.out _
        try simp only [Act.put, List.setIfInBounds_toArray, List.set_cons_zero, List.set_cons_succ]
        refine wpAnyH_done (by kernel_rfl) ?_ _
        go_wp2_with fail
        go_ret2
        exact ⟨by rw [stI_at (by omega) HE.out HA.out]; rfl, HM2.out.bl⟩
    · have HN := Lib.hid (stI_no HA.out)
      go_wp2_with fail
      go_ret2
      exact ⟨by rw [HN.out]; rfl, HM.out.bl⟩
end Go.Proofs.YtlkdmpfifpkpaaaGreatDoor
namespace Go.Proofs.YtlkdmpfifpkpaaaGreatDoor
open Go.RowKit

/-- the state behind a letter; 5 where it cannot be -/
def nx (k : Nat) (c : Int) : Nat :=
  match k with
  | 0 => if c = 111 then 1 else 5
  | 1 => if c = 114 then 0 else if c = 97 then 2 else 5
  | 2 => if c = 99 then 0 else if c = 101 then 3 else 5
  | 3 => if c = 108 then 4 else 5
  | 4 => if c = 102 then 0 else 5
  | _ => 5
theorem nx_le : ∀ (k : Nat) (c : Int), nx k c ≤ 5
  | 0, c => by simp only [nx]; split <;> omega
  | 1, c => by simp only [nx]; split <;> (try split) <;> omega
  | 2, c => by simp only [nx]; split <;> (try split) <;> omega
  | 3, c => by simp only [nx]; split <;> omega
  | 4, c => by simp only [nx]; split <;> omega
  | k + 5, c => by simp [nx]
def sbV (k : Nat) (c : Int) : Value := if nx k c < 5 then ifV (nx k c) else ifV k
theorem ta00 (w : World) : (Instr.typeAssert (.iface 133 (.agg #[])) 103 133 true).run Tryz.prog w = .ok (.tuple #[.agg #[], .bool true]) w := by kernel_rfl
theorem ta10 (w : World) : (Instr.typeAssert (.iface 134 (.agg #[])) 103 133 true).run Tryz.prog w = .ok (.tuple #[.agg #[], .bool false]) w := by kernel_rfl
theorem ta11 (w : World) : (Instr.typeAssert (.iface 134 (.agg #[])) 103 134 true).run Tryz.prog w = .ok (.tuple #[.agg #[], .bool true]) w := by kernel_rfl
theorem ta20 (w : World) : (Instr.typeAssert (.iface 135 (.agg #[])) 103 133 true).run Tryz.prog w = .ok (.tuple #[.agg #[], .bool false]) w := by kernel_rfl
theorem ta21 (w : World) : (Instr.typeAssert (.iface 135 (.agg #[])) 103 134 true).run Tryz.prog w = .ok (.tuple #[.agg #[], .bool false]) w := by kernel_rfl
theorem ta22 (w : World) : (Instr.typeAssert (.iface 135 (.agg #[])) 103 135 true).run Tryz.prog w = .ok (.tuple #[.agg #[], .bool true]) w := by kernel_rfl
theorem ta30 (w : World) : (Instr.typeAssert (.iface 136 (.agg #[])) 103 133 true).run Tryz.prog w = .ok (.tuple #[.agg #[], .bool false]) w := by kernel_rfl
theorem ta31 (w : World) : (Instr.typeAssert (.iface 136 (.agg #[])) 103 134 true).run Tryz.prog w = .ok (.tuple #[.agg #[], .bool false]) w := by kernel_rfl
theorem ta32 (w : World) : (Instr.typeAssert (.iface 136 (.agg #[])) 103 135 true).run Tryz.prog w = .ok (.tuple #[.agg #[], .bool false]) w := by kernel_rfl
theorem ta33 (w : World) : (Instr.typeAssert (.iface 136 (.agg #[])) 103 136 true).run Tryz.prog w = .ok (.tuple #[.agg #[], .bool true]) w := by kernel_rfl
theorem ta40 (w : World) : (Instr.typeAssert (.iface 137 (.agg #[])) 103 133 true).run Tryz.prog w = .ok (.tuple #[.agg #[], .bool false]) w := by kernel_rfl
theorem ta41 (w : World) : (Instr.typeAssert (.iface 137 (.agg #[])) 103 134 true).run Tryz.prog w = .ok (.tuple #[.agg #[], .bool false]) w := by kernel_rfl
theorem ta42 (w : World) : (Instr.typeAssert (.iface 137 (.agg #[])) 103 135 true).run Tryz.prog w = .ok (.tuple #[.agg #[], .bool false]) w := by kernel_rfl
theorem ta43 (w : World) : (Instr.typeAssert (.iface 137 (.agg #[])) 103 136 true).run Tryz.prog w = .ok (.tuple #[.agg #[], .bool false]) w := by kernel_rfl
theorem ta44 (w : World) : (Instr.typeAssert (.iface 137 (.agg #[])) 103 137 true).run Tryz.prog w = .ok (.tuple #[.agg #[], .bool true]) w := by kernel_rfl
set_option maxRecDepth 100000 in
set_option maxHeartbeats 2000000 in
theorem stateBehind_any (k : Nat) (c : Int) (w : World) (hk : k < 5) :
    Calls Tryz.prog 67 #[ifV k, .int .u8 c] w fun e w' => e = .returned (.tuple #[sbV k c, .bool (decide (nx k c < 5))]) ∧ w = w' := by
  have h5 : k = 0 ∨ k = 1 ∨ k = 2 ∨ k = 3 ∨ k = 4 := by omega
  rcases h5 with rfl | rfl | rfl | rfl | rfl
  · show Calls Tryz.prog 67 #[.iface 133 (.agg #[]), .int .u8 c] w _
    have t0 := ta00
    by_cases hc : c = 111
    · have HV : Hid (sbV 0 c = ifV 1 ∧ nx 0 c = 1) := by
        have e : nx 0 c = 1 := by simp [nx, hc]
        exact ⟨by unfold sbV; rw [e]; rfl, e⟩
      have g1 : (c == 111) = true := by simp [hc]
      clear hc
      go_enter Tryz.func67, Tryz.ntmps67
      go_wp2_with fail
      go_ret2
      exact ⟨by rw [HV.out.1, HV.out.2]; rfl, rfl⟩
    · have HV : Hid (sbV 0 c = ifV 0 ∧ nx 0 c = 5) := by
        have e : nx 0 c = 5 := by simp [nx, hc]
        exact ⟨by unfold sbV; rw [e]; rfl, e⟩
      have g1 : (c == 111) = false := by simp [hc]
      clear hc
      go_enter Tryz.func67, Tryz.ntmps67
      go_wp2_with fail
      go_ret2
      exact ⟨by rw [HV.out.1, HV.out.2]; rfl, rfl⟩
  · show Calls Tryz.prog 67 #[.iface 134 (.agg #[]), .int .u8 c] w _
    have t0 := ta10
    have t1 := ta11
    by_cases hc : c = 114
    · have HV : Hid (sbV 1 c = ifV 0 ∧ nx 1 c = 0) := by
        have e : nx 1 c = 0 := by simp [nx, hc]
        exact ⟨by unfold sbV; rw [e]; rfl, e⟩
      have g1 : (c == 114) = true := by simp [hc]
      clear hc
      go_enter Tryz.func67, Tryz.ntmps67
      go_wp2_with fail
      go_ret2
      exact ⟨by rw [HV.out.1, HV.out.2]; rfl, rfl⟩
    have g0 : (c == 114) = false := by simp [hc]
    have hc0 := hc
    by_cases hc : c = 97
    · have HV : Hid (sbV 1 c = ifV 2 ∧ nx 1 c = 2) := by
        have e : nx 1 c = 2 := by simp [nx, hc]
        exact ⟨by unfold sbV; rw [e]; rfl, e⟩
      have g1 : (c == 97) = true := by simp [hc]
      clear hc hc0
      go_enter Tryz.func67, Tryz.ntmps67
      go_wp2_with fail
      go_ret2
      exact ⟨by rw [HV.out.1, HV.out.2]; rfl, rfl⟩
    · have HV : Hid (sbV 1 c = ifV 1 ∧ nx 1 c = 5) := by
        have e : nx 1 c = 5 := by simp [nx, hc, hc0]
        exact ⟨by unfold sbV; rw [e]; rfl, e⟩
      have g1 : (c == 97) = false := by simp [hc]
      clear hc hc0
      go_enter Tryz.func67, Tryz.ntmps67
      go_wp2_with fail
      go_ret2
      exact ⟨by rw [HV.out.1, HV.out.2]; rfl, rfl⟩
  · show Calls Tryz.prog 67 #[.iface 135 (.agg #[]), .int .u8 c] w _
    have t0 := ta20
    have t1 := ta21
    have t2 := ta22
    by_cases hc : c = 99
    · have HV : Hid (sbV 2 c = ifV 0 ∧ nx 2 c = 0) := by
        have e : nx 2 c = 0 := by simp [nx, hc]
        exact ⟨by unfold sbV; rw [e]; rfl, e⟩
      have g1 : (c == 99) = true := by simp [hc]
      clear hc
      go_enter Tryz.func67, Tryz.ntmps67
      go_wp2_with fail
      go_ret2
      exact ⟨by rw [HV.out.1, HV.out.2]; rfl, rfl⟩
    have g0 : (c == 99) = false := by simp [hc]
    have hc0 := hc
    by_cases hc : c = 101
    · have HV : Hid (sbV 2 c = ifV 3 ∧ nx 2 c = 3) := by
        have e : nx 2 c = 3 := by simp [nx, hc]
        exact ⟨by unfold sbV; rw [e]; rfl, e⟩
      have g1 : (c == 101) = true := by simp [hc]
      clear hc hc0
      go_enter Tryz.func67, Tryz.ntmps67
      go_wp2_with fail
      go_ret2
      exact ⟨by rw [HV.out.1, HV.out.2]; rfl, rfl⟩
    · have HV : Hid (sbV 2 c = ifV 2 ∧ nx 2 c = 5) := by
        have e : nx 2 c = 5 := by simp [nx, hc, hc0]
        exact ⟨by unfold sbV; rw [e]; rfl, e⟩
      have g1 : (c == 101) = false := by simp [hc]
      clear hc hc0
      go_enter Tryz.func67, Tryz.ntmps67
      go_wp2_with fail
      go_ret2
      exact ⟨by rw [HV.out.1, HV.out.2]; rfl, rfl⟩
  · show Calls Tryz.prog 67 #[.iface 136 (.agg #[]), .int .u8 c] w _
    have t0 := ta30
    have t1 := ta31
    have t2 := ta32
    have t3 := ta33
    by_cases hc : c = 108
    · have HV : Hid (sbV 3 c = ifV 4 ∧ nx 3 c = 4) := by
        have e : nx 3 c = 4 := by simp [nx, hc]
        exact ⟨by unfold sbV; rw [e]; rfl, e⟩
      have g1 : (c == 108) = true := by simp [hc]
      clear hc
      go_enter Tryz.func67, Tryz.ntmps67
      go_wp2_with fail
      go_ret2
      exact ⟨by rw [HV.out.1, HV.out.2]; rfl, rfl⟩
    · have HV : Hid (sbV 3 c = ifV 3 ∧ nx 3 c = 5) := by
        have e : nx 3 c = 5 := by simp [nx, hc]
        exact ⟨by unfold sbV; rw [e]; rfl, e⟩
      have g1 : (c == 108) = false := by simp [hc]
      clear hc
      go_enter Tryz.func67, Tryz.ntmps67
      go_wp2_with fail
      go_ret2
      exact ⟨by rw [HV.out.1, HV.out.2]; rfl, rfl⟩
  · show Calls Tryz.prog 67 #[.iface 137 (.agg #[]), .int .u8 c] w _
    have t0 := ta40
    have t1 := ta41
    have t2 := ta42
    have t3 := ta43
    have t4 := ta44
    by_cases hc : c = 102
    · have HV : Hid (sbV 4 c = ifV 0 ∧ nx 4 c = 0) := by
        have e : nx 4 c = 0 := by simp [nx, hc]
        exact ⟨by unfold sbV; rw [e]; rfl, e⟩
      have g1 : (c == 102) = true := by simp [hc]
      clear hc
      go_enter Tryz.func67, Tryz.ntmps67
      go_wp2_with fail
      go_ret2
      exact ⟨by rw [HV.out.1, HV.out.2]; rfl, rfl⟩
    · have HV : Hid (sbV 4 c = ifV 4 ∧ nx 4 c = 5) := by
        have e : nx 4 c = 5 := by simp [nx, hc]
        exact ⟨by unfold sbV; rw [e]; rfl, e⟩
      have g1 : (c == 102) = false := by simp [hc]
      clear hc
      go_enter Tryz.func67, Tryz.ntmps67
      go_wp2_with fail
      go_ret2
      exact ⟨by rw [HV.out.1, HV.out.2]; rfl, rfl⟩
theorem inV_at {k : Nat} (h : k < 5) : inV k = ifV k := if_pos h
theorem possible_any (n : Int) (i o : Bool) (w : World) :
    Calls Tryz.prog 172 #[.agg #[.int .i64 n, .bool i, .bool o]] w fun e w' => e = .returned (.bool (decide (stI n i o < 5))) ∧ Below w.heap.size w w' := by
  have HBB : Hid (∀ a, Below w.heap.size w (w.alloc a)) := fun a => below_all _ _
  go_enter Tryz.func172, Tryz.ntmps172
  go_wp2_with fail
  refine (instr_any n i o _).mono ?_
  rintro e w1 ⟨rfl, hb⟩
  have HB1 := Lib.hid ((HBB.out _).trans (hb.mono (by simp)))
  clear hb
  go_wp2_with fail
  go_ret
  exact ⟨rfl, HB1.out⟩
/-- the byte at a place -/
def bt (s : ByteArray) (k : Nat) : Int := if h : k < s.size then (s[k].toNat : Int) else 0
theorem bt_at {s : ByteArray} {k : Nat} (h : k < s.size) : (s[k].toNat : Int) = bt s k := by simp [bt, h]
/-- the state behind a block and a text of one letter; 5 where there is none -/
def bsI (n : Int) (i o : Bool) (s : ByteArray) : Nat := if s.size = 1 then nx (stI n i o) (bt s 0) else 5
end Go.Proofs.YtlkdmpfifpkpaaaGreatDoor
namespace Go.Proofs.YtlkdmpfifpkpaaaGreatDoor
open Go.RowKit

/-- a builder in block b that holds the cells bs -/
abbrev Sb (B b : Nat) (bs : List Value) (w : World) : Prop := Lib.IsBuilder 59 5 B b bs w
/-- .. that has been written to -/
abbrev SbU (B b : Nat) (bs : List Value) (w : World) : Prop := Lib.BuilderAt 59 5 B b (.pointer (some ⟨b, 0, none⟩)) bs w
set_option maxHeartbeats 1000000 in
set_option maxRecDepth 100000 in
theorem string (B b : Nat) (l : List UInt8) (w : World) (h : Lib.IsBuilder 59 5 B b (Lib.byteCells l) w) (h0 : l ≠ []) :
    Calls Tryz.prog 39 #[.pointer (some ⟨b, 0, none⟩)] w fun e w' => e = .returned (.string ⟨l.toArray⟩) ∧ Below B w w' := by
  obtain ⟨p, hB, v, hbk, hown, hne⟩ : ∃ p, Lib.BuilderAt 59 5 B b p (Lib.byteCells l) w := by
    rcases h with h | h
    · exact ⟨_, h⟩
    · exact ⟨_, h⟩
  have hl0 : l.length ≠ 0 := by simpa using h0
  rw [Lib.byteCells_length] at hown
  obtain ⟨g, cap, cur, rfl, hbg, hg, hnc, hcm, hcs, htake⟩ : ∃ g cap cur, v = .slice (some ⟨g, 0, none⟩) l.length cap ∧ B ≤ g ∧ w.heap[g]? = some (.cells cur 5 (0, 0)) ∧ l.length ≤ cap ∧ cap ≤ maxLen ∧ cur.size = cap * 1 ∧ cur.toList.take (l.length * 1) = Lib.byteCells l := by
    rcases hown.2 with ⟨_, hz⟩ | ⟨g, cap, cur, hv, r⟩
    · exact absurd hz hl0
    · exact ⟨g, cap, cur, hv, r⟩
  have c1 : w.drew.cell? ⟨b, 1, none⟩ = some (.slice (some ⟨g, 0, none⟩) l.length cap) := by
    have : w.drew.heap[b]? = some (.cells #[p, .slice (some ⟨g, 0, none⟩) l.length cap] 59 (0, 0)) := hbk
    rw [Lib.cell_of_heap this]; rfl
  have hSD : (Builtin.unsafeSliceData_ #[22] 89 #[.slice (some ⟨g, 0, none⟩) l.length cap]).run Tryz.prog w.drew = .ok (.pointer (some ⟨g, 0, none⟩)) w.drew :=
    Lib.run_unsafeSliceData_row _ _ _ _ _ _ (by omega)
  have hUS : (Builtin.unsafeString_ #[89, 3] 9 #[.pointer (some ⟨g, 0, none⟩), .int .i64 l.length]).run Tryz.prog w.drew = .ok (.string ⟨l.toArray⟩) (w.drew.freeze ⟨g, 0, none⟩ l.length) := by
    refine Lib.run_unsafeString_row w.drew 89 3 9 5 Tryz.underlying89 (by kernel_rfl) g cur.size (by have hg' : w.drew.heap[g]? = some (.cells cur 5 (0, 0)) := hg; simp [World.shape?, hg']) l h0 (by omega) (by unfold maxLen at hcm; omega) ?_
    intro j x hx
    have := hown.cells (g := g) rfl j (.int .u8 x.toNat) (by simp [Lib.byteCells, hx])
    exact this
  go_enter Tryz.func39, Tryz.ntmps39
  go_wp2_with fail
  go_region
  all_goals (go_wp2_with fail; go_ret; exact ⟨rfl, Lib.below_freeze (Below.drew (Below.refl B w)) (p := ⟨g, 0, none⟩) hbg _⟩)


theorem unsafeString_none (W : World) (q : Option Addr) : (Builtin.unsafeString_ #[89, 3] 9 #[.pointer q, .int .i64 0]).run Tryz.prog W = .ok (.string .empty) W :=
  Lib.run_unsafeString_none W _ _ _ q

set_option maxHeartbeats 2000000 in
set_option maxRecDepth 100000 in
theorem string_nil (B b : Nat) (p : Value) (w : World) (hbk : w.heap[b]? = some (.cells #[p, .slice none 0 0] 59 (0, 0))) :
    Calls Tryz.prog 39 #[.pointer (some ⟨b, 0, none⟩)] w fun e w' => e = .returned (.string ⟨#[]⟩) ∧ Below B w w' := by
  have hUS := unsafeString_none
  have c1 : w.drew.cell? ⟨b, 1, none⟩ = some (.slice none 0 0) := by
    have : w.drew.heap[b]? = some (.cells #[p, .slice none 0 0] 59 (0, 0)) := hbk
    rw [Lib.cell_of_heap this]; rfl
  have hSD : (Builtin.unsafeSliceData_ #[22] 89 #[.slice none 0 0]).run Tryz.prog w.drew = .ok (.pointer none) w.drew := rfl
  go_enter Tryz.func39, Tryz.ntmps39
  go_wp2_with fail
  go_region
  all_goals (go_wp2_with fail; go_ret; exact ⟨rfl, Below.drew (Below.refl B w)⟩)

set_option maxHeartbeats 2000000 in
set_option maxRecDepth 100000 in
theorem string_noroom (B b g : Nat) (p : Value) (cur : Array Value) (w : World) (hBw : B ≤ w.heap.size) (hbk : w.heap[b]? = some (.cells #[p, .slice (some ⟨g, 0, none⟩) 0 0] 59 (0, 0))) (hg : w.heap[g]? = some (.cells cur 5 (0, 0))) :
    Calls Tryz.prog 39 #[.pointer (some ⟨b, 0, none⟩)] w fun e w' => e = .returned (.string ⟨#[]⟩) ∧ Below B w w' := by
  have hUS := unsafeString_none
  have hlt : b < w.heap.size := by
    rcases Nat.lt_or_ge b w.heap.size with h' | h'
    · exact h'
    · simp [Array.getElem?_eq_none h'] at hbk
  have c1 : w.drew.cell? ⟨b, 1, none⟩ = some (.slice (some ⟨g, 0, none⟩) 0 0) := by
    have : w.drew.heap[b]? = some (.cells #[p, .slice (some ⟨g, 0, none⟩) 0 0] 59 (0, 0)) := hbk
    rw [Lib.cell_of_heap this]; rfl
  have hSD : (Builtin.unsafeSliceData_ #[22] 89 #[.slice (some ⟨g, 0, none⟩) 0 0]).run Tryz.prog w.drew = .ok (.pointer (some ⟨w.drew.heap.size, 0, none⟩)) (w.drew.alloc (.view ⟨g, 0, none⟩ 5)) :=
    Lib.run_unsafeSliceData_zero w.drew _ _ 5 Tryz.underlying89 ⟨g, 0, none⟩ 0 (5, cur.size) (by have hg' : w.drew.heap[g]? = some (.cells cur 5 (0, 0)) := hg; simp [World.shape?, hg'])
  have c2 : (w.drew.alloc (.view ⟨g, 0, none⟩ 5)).cell? ⟨b, 1, none⟩ = some (.slice (some ⟨g, 0, none⟩) 0 0) := by
    have : (w.drew.alloc (.view ⟨g, 0, none⟩ 5)).heap[b]? = _ := (Lib.alloc_old w.drew _ b hlt).trans hbk
    rw [Lib.cell_of_heap this]; rfl
  -- (the same fact as the how-to's newer walk spells the world; and of w itself, to which the elder walk comes down)
  have c3 : (w.alloc (.view ⟨g, 0, none⟩ 5)).drew.cell? ⟨b, 1, none⟩ = some (.slice (some ⟨g, 0, none⟩) 0 0) := c2
  have c0 : w.cell? ⟨b, 1, none⟩ = some (.slice (some ⟨g, 0, none⟩) 0 0) := c1
  go_enter Tryz.func39, Tryz.ntmps39
  go_wp2_with fail
  go_region
  all_goals (go_wp2_with fail; go_ret; exact ⟨rfl, (Below.drew (Below.refl B w)).alloc hBw _⟩)

set_option maxHeartbeats 2000000 in
set_option maxRecDepth 100000 in
theorem string_room (B b g cap : Nat) (p : Value) (w : World) (hc0 : cap ≠ 0) (hbk : w.heap[b]? = some (.cells #[p, .slice (some ⟨g, 0, none⟩) 0 cap] 59 (0, 0))) :
    Calls Tryz.prog 39 #[.pointer (some ⟨b, 0, none⟩)] w fun e w' => e = .returned (.string ⟨#[]⟩) ∧ Below B w w' := by
  have hUS := unsafeString_none
  have c1 : w.drew.cell? ⟨b, 1, none⟩ = some (.slice (some ⟨g, 0, none⟩) 0 cap) := by
    have : w.drew.heap[b]? = some (.cells #[p, .slice (some ⟨g, 0, none⟩) 0 cap] 59 (0, 0)) := hbk
    rw [Lib.cell_of_heap this]; rfl
  have hSD : (Builtin.unsafeSliceData_ #[22] 89 #[.slice (some ⟨g, 0, none⟩) 0 cap]).run Tryz.prog w.drew = .ok (.pointer (some ⟨g, 0, none⟩)) w.drew :=
    Lib.run_unsafeSliceData_row _ _ _ _ _ _ hc0
  clear hc0
  go_enter Tryz.func39, Tryz.ntmps39
  go_wp2_with fail
  go_region
  all_goals (go_wp2_with fail; go_ret; exact ⟨rfl, Below.drew (Below.refl B w)⟩)

theorem string_empty (B b : Nat) (w : World) (h : Lib.IsBuilder 59 5 B b [] w) (hBw : B ≤ w.heap.size) :
    Calls Tryz.prog 39 #[.pointer (some ⟨b, 0, none⟩)] w fun e w' => e = .returned (.string ⟨#[]⟩) ∧ Below B w w' := by
  obtain ⟨p, hB, v, hbk, hown, hne⟩ : ∃ p, Lib.BuilderAt 59 5 B b p [] w := by
    rcases h with h | h
    · exact ⟨_, h⟩
    · exact ⟨_, h⟩
  rcases hown.2 with ⟨rfl, _⟩ | ⟨g, cap, cur, rfl, hbg, hg, _, _, _, _⟩
  · exact string_nil B b p w hbk
  · by_cases hc0 : cap = 0
    · subst hc0
      exact string_noroom B b g p cur w hBw hbk hg
    · exact string_room B b g cap p w hc0 hbk

theorem string_any (B b : Nat) (l : List UInt8) (w : World) (h : Lib.IsBuilder 59 5 B b (Lib.byteCells l) w) (hBw : B ≤ w.heap.size) :
    Calls Tryz.prog 39 #[.pointer (some ⟨b, 0, none⟩)] w fun e w' => e = .returned (.string ⟨l.toArray⟩) ∧ Below B w w' := by
  cases l with
  | nil => exact string_empty B b w h hBw
  | cons x r => exact string B b (x :: r) w h (by simp)

end Go.Proofs.YtlkdmpfifpkpaaaGreatDoor
namespace Go.Proofs.YtlkdmpfifpkpaaaGreatDoor
open Go.RowKit

/-- the entry with a number, or nil -/
def pE (es : List Nat) (i : Nat) : Value := match es[i]? with | some b => .pointer (some ⟨b, 0, none⟩) | none => .pointer none
theorem gD_old {es : List Nat} {i b : Nat} (h : i < es.length) : (es ++ [b]).getD i 0 = es.getD i 0 := by
  rw [List.getD_eq_getElem?_getD, List.getD_eq_getElem?_getD, List.getElem?_append_left h]
theorem gD_new {es : List Nat} {b : Nat} : (es ++ [b]).getD es.length 0 = b := by
  rw [List.getD_eq_getElem?_getD]
  simp
/-- a note of a list -/
def nM (ns : List (Int × ByteArray)) (i : Nat) : Int := ((ns[i]?).map (·.1)).getD 0
def nL (ns : List (Int × ByteArray)) (i : Nat) : ByteArray := ((ns[i]?).map (·.2)).getD ⟨#[]⟩
theorem nM_at {ns : List (Int × ByteArray)} {i : Nat} (h : i < ns.length) : nM ns i = (ns[i]).1 := by unfold nM; rw [List.getElem?_eq_getElem h]; rfl
theorem nL_at {ns : List (Int × ByteArray)} {i : Nat} (h : i < ns.length) : nL ns i = (ns[i]).2 := by unfold nL; rw [List.getElem?_eq_getElem h]; rfl
/-- block r is a register of the entries es that hold the notes ns -/
structure RgC (w : World) (r : Nat) (es : List Nat) (ns : List (Int × ByteArray)) : Prop where
  box : Bx w r 210 #[pE es 0, pE es (es.length - 1), .int .i64 es.length]
  len : es.length = ns.length
  ent : ∀ i, i < es.length → Bx w (es.getD i 0) 213 #[.int .i64 (nM ns i), .string (nL ns i), pE es (i + 1)]
  dst : ∀ i, i < es.length → es.getD i 0 ≠ r
  inj : ∀ i j, i < es.length → j < es.length → es.getD i 0 = es.getD j 0 → i = j
theorem RgC.below {w w' : World} {r B : Nat} {es : List Nat} {ns : List (Int × ByteArray)} (h : RgC w r es ns) (hb : Below B w w') (hB : w.heap.size ≤ B) : RgC w' r es ns :=
  ⟨h.box.below hb (Nat.lt_of_lt_of_le h.box.lt hB), h.len, fun i hi => (h.ent i hi).below hb (Nat.lt_of_lt_of_le (h.ent i hi).lt hB), h.dst, h.inj⟩
theorem RgC.alloc {w : World} {r : Nat} {es : List Nat} {ns : List (Int × ByteArray)} (h : RgC w r es ns) (o : Obj) : RgC (w.alloc o) r es ns := h.below (below_all _ _) (Nat.le_refl _)
theorem RgC.drew {w : World} {r : Nat} {es : List Nat} {ns : List (Int × ByteArray)} (h : RgC w r es ns) : RgC w.drew r es ns := h.below (Below.refl _ w).drew (Nat.le_refl _)
/-- a register without notes -/
theorem RgC.nil {w : World} {r : Nat} (h : Bx w r 210 #[.pointer none, .pointer none, .int .i64 0]) : RgC w r [] [] :=
  ⟨h, rfl, fun i hi => by simp at hi, fun i hi => by simp at hi, fun i j hi => by simp at hi⟩
/-- all blocks of a register lie at a bound or above -/
def RgB (B r : Nat) (es : List Nat) : Prop := B ≤ r ∧ ∀ i, i < es.length → B ≤ es.getD i 0
theorem RgB.push {B r b : Nat} {es : List Nat} (h : RgB B r es) (hb : B ≤ b) : RgB B r (es ++ [b]) := ⟨h.1, fun i hi => by
  rcases Nat.lt_or_ge i es.length with h1 | h1
  · rw [gD_old h1]; exact h.2 i h1
  · simp at hi
    obtain rfl : i = es.length := by omega
    rw [gD_new]; exact hb⟩
theorem RgB.mono {B D r : Nat} {es : List Nat} (h : RgB B r es) (hD : D ≤ B) : RgB D r es := ⟨Nat.le_trans hD h.1, fun i hi => Nat.le_trans hD (h.2 i hi)⟩
end Go.Proofs.YtlkdmpfifpkpaaaGreatDoor
namespace Go.Proofs
open Go.Shelf
def Tryz.lays156_ren : Go.Shelf.Ren := ⟨fun | 156 => 127 | 165 => 148 | 166 => 36 | 169 => 39 | 240 => 55 | 241 => 168 | 276 => 73 | 277 => 174 | n => n, fun | 31 => 60 | 9 => 9 | 3 => 3 | 4 => 4 | 0 => 0 | 20 => 20 | 72 => 59 | 76 => 64 | 70 => 57 | 37 => 22 | 75 => 63 | 127 => 89 | 164 => 112 | 5 => 5 | 80 => 66 | n => n, fun | n => n⟩
theorem Tryz.lays156 : Go.Proofs.Lays.n156 Tryz.prog Tryz.lays156_ren := {
  mixed := by kernel_rfl
  f156 := Tryz.func127.trans (congrArg some (by kernel_rfl))
  f165 := Tryz.func148.trans (congrArg some (by kernel_rfl))
  f166 := Tryz.func36.trans (congrArg some (by kernel_rfl))
  f169 := Tryz.func39.trans (congrArg some (by kernel_rfl))
  f240 := Tryz.func55.trans (congrArg some (by kernel_rfl))
  f241 := Tryz.func168.trans (congrArg some (by kernel_rfl))
  f276 := Tryz.func73.trans (congrArg some (by kernel_rfl))
  f277 := Tryz.func174.trans (congrArg some (by kernel_rfl))
  t0 := Tryz.underlying0
  a0 := Tryz.isAgg0
  z0 := Tryz.sizeOf0
  v0 := Tryz.zeroValue0
  t3 := Tryz.underlying3
  a3 := Tryz.isAgg3
  z3 := Tryz.sizeOf3
  v3 := Tryz.zeroValue3
  t4 := Tryz.underlying4
  a4 := Tryz.isAgg4
  z4 := Tryz.sizeOf4
  v4 := Tryz.zeroValue4
  t9 := Tryz.underlying9
  a9 := Tryz.isAgg9
  z9 := Tryz.sizeOf9
  v9 := Tryz.zeroValue9
  t20 := Tryz.underlying20
  a20 := Tryz.isAgg20
  z20 := Tryz.sizeOf20
  v20 := Tryz.zeroValue20
  t31 := Tryz.underlying60
  a31 := Tryz.isAgg60
  z31 := Tryz.sizeOf60
  v31 := Tryz.zeroValue60
  t37 := Tryz.underlying22
  a37 := Tryz.isAgg22
  z37 := Tryz.sizeOf22
  v37 := Tryz.zeroValue22
  t70 := Tryz.underlying57
  a70 := Tryz.isAgg57
  z70 := Tryz.sizeOf57
  v70 := Tryz.zeroValue57
  t72 := Tryz.underlying59
  a72 := Tryz.isAgg59
  z72 := Tryz.sizeOf59
  v72 := Tryz.zeroValue59
  t75 := Tryz.underlying63
  a75 := Tryz.isAgg63
  z75 := Tryz.sizeOf63
  v75 := Tryz.zeroValue63
  t76 := Tryz.underlying64
  a76 := Tryz.isAgg64
  z76 := Tryz.sizeOf64
  v76 := Tryz.zeroValue64
  t127 := Tryz.underlying89
  a127 := Tryz.isAgg89
  z127 := Tryz.sizeOf89
  v127 := Tryz.zeroValue89
  t164 := Tryz.underlying112
  a164 := Tryz.isAgg112
  z164 := Tryz.sizeOf112
  v164 := Tryz.zeroValue112 }
theorem Tryz.Builder_Extra_156 : Builder.Extra Tryz.prog Tryz.lays156_ren := {
  sizeBuilder := by kernel_rfl
  liesBuilder := by kernel_rfl
  t5 := Tryz.underlying5
  a5 := Tryz.isAgg5
  z5 := Tryz.sizeOf5
  v5 := Tryz.zeroValue5
  infoByte := by kernel_rfl
  cellsByte := by kernel_rfl
  sizeByte := by kernel_rfl
  neB5 := by decide }
open Go.RowKit in
open Go.RowKit in
theorem Tryz.strings_Join (bk o c : Nat) (xs : List ByteArray) (sep : ByteArray) (w : World) (hcells : ∀ (j : Nat) x, xs[j]? = some x → w.cell? ⟨bk, o + j, none⟩ = some (.string x)) (hbk : bk < w.heap.size) (hN : xs.length ≤ 140737488355328) (hcap : xs.length ≤ c) (hlen : (Lib.join (xs.map (·.data.toList)) sep.data.toList).length ≤ 140737488355328) :
    Calls Tryz.prog 127 #[.slice (some ⟨bk, o, none⟩) xs.length c, .string sep] w fun e w' => e = .returned (.string ⟨(Lib.join (xs.map (·.data.toList)) sep.data.toList).toArray⟩) ∧ Below w.heap.size w w' := Any.strings_Join Tryz.lays156 Tryz.Builder_Extra_156 bk o c xs sep w hcells hbk hN hcap hlen
def Tryz.laysM171_ren : Go.Shelf.Ren := ⟨fun | 171 => 38 | 243 => 58 | 246 => 77 | 283 => 105 | 284 => 106 | 285 => 107 | 286 => 108 | 129 => 132 | 317 => 131 | 318 => 133 | 319 => 134 | 320 => 135 | 337 => 153 | 338 => 154 | n => n, fun | 3 => 3 | 9 => 9 | 2 => 2 | 4 => 4 | 171 => 141 | 0 => 0 | 53 => 142 | 37 => 22 | 5 => 5 | 173 => 145 | 212 => 161 | 51 => 162 | 20 => 20 | 213 => 163 | 46 => 157 | 232 => 204 | 233 => 205 | n => n, fun | 17 => 1 | 18 => 4 | 19 => 5 | n => n⟩
theorem Tryz.laysM171 : Go.Proofs.LaysM.n171 Tryz.prog Tryz.laysM171_ren := {
  mixed := by kernel_rfl
  f129 := Tryz.func132.trans (congrArg some (by kernel_rfl))
  f171 := Tryz.func38.trans (congrArg some (by kernel_rfl))
  f243 := Tryz.func58.trans (congrArg some (by kernel_rfl))
  f246 := Tryz.func77.trans (congrArg some (by kernel_rfl))
  f283 := Tryz.func105.trans (congrArg some (by kernel_rfl))
  f284 := Tryz.func106.trans (congrArg some (by kernel_rfl))
  f285 := Tryz.func107.trans (congrArg some (by kernel_rfl))
  f286 := Tryz.func108.trans (congrArg some (by kernel_rfl))
  f317 := Tryz.func131.trans (congrArg some (by kernel_rfl))
  f318 := Tryz.func133.trans (congrArg some (by kernel_rfl))
  f319 := Tryz.func134.trans (congrArg some (by kernel_rfl))
  f320 := Tryz.func135.trans (congrArg some (by kernel_rfl))
  f337 := Tryz.func153.trans (congrArg some (by kernel_rfl))
  f338 := Tryz.func154.trans (congrArg some (by kernel_rfl))
  t0 := Tryz.underlying0
  a0 := Tryz.isAgg0
  z0 := Tryz.sizeOf0
  v0 := Tryz.zeroValue0
  t2 := Tryz.underlying2
  a2 := Tryz.isAgg2
  z2 := Tryz.sizeOf2
  v2 := Tryz.zeroValue2
  t3 := Tryz.underlying3
  a3 := Tryz.isAgg3
  z3 := Tryz.sizeOf3
  v3 := Tryz.zeroValue3
  t4 := Tryz.underlying4
  a4 := Tryz.isAgg4
  z4 := Tryz.sizeOf4
  v4 := Tryz.zeroValue4
  t5 := Tryz.underlying5
  a5 := Tryz.isAgg5
  z5 := Tryz.sizeOf5
  v5 := Tryz.zeroValue5
  t9 := Tryz.underlying9
  a9 := Tryz.isAgg9
  z9 := Tryz.sizeOf9
  v9 := Tryz.zeroValue9
  t20 := Tryz.underlying20
  a20 := Tryz.isAgg20
  z20 := Tryz.sizeOf20
  v20 := Tryz.zeroValue20
  t37 := Tryz.underlying22
  a37 := Tryz.isAgg22
  z37 := Tryz.sizeOf22
  v37 := Tryz.zeroValue22
  t46 := Tryz.underlying157
  a46 := Tryz.isAgg157
  z46 := Tryz.sizeOf157
  v46 := Tryz.zeroValue157
  t51 := Tryz.underlying162
  a51 := Tryz.isAgg162
  z51 := Tryz.sizeOf162
  v51 := Tryz.zeroValue162
  t53 := Tryz.underlying142
  a53 := Tryz.isAgg142
  z53 := Tryz.sizeOf142
  v53 := Tryz.zeroValue142
  t171 := Tryz.underlying141
  a171 := Tryz.isAgg141
  z171 := Tryz.sizeOf141
  v171 := Tryz.zeroValue141
  t173 := Tryz.underlying145
  a173 := Tryz.isAgg145
  z173 := Tryz.sizeOf145
  v173 := Tryz.zeroValue145
  t212 := Tryz.underlying161
  a212 := Tryz.isAgg161
  z212 := Tryz.sizeOf161
  v212 := Tryz.zeroValue161
  t213 := Tryz.underlying163
  a213 := Tryz.isAgg163
  z213 := Tryz.sizeOf163
  t232 := Tryz.underlying204
  a232 := Tryz.isAgg204
  z232 := Tryz.sizeOf204
  v232 := Tryz.zeroValue204
  t233 := Tryz.underlying205
  a233 := Tryz.isAgg205
  z233 := Tryz.sizeOf205
  v233 := Tryz.zeroValue205
  g17 := by kernel_rfl
  g18 := by kernel_rfl
  g19 := by kernel_rfl
  i0 := by kernel_rfl
  i2 := by kernel_rfl
  i3 := by kernel_rfl
  i4 := by kernel_rfl
  i5 := by kernel_rfl
  i9 := by kernel_rfl
  i20 := by kernel_rfl
  i37 := by kernel_rfl
  i46 := by kernel_rfl
  i51 := by kernel_rfl
  i53 := by kernel_rfl
  i171 := by kernel_rfl
  i173 := by kernel_rfl
  i212 := by kernel_rfl
  i232 := by kernel_rfl
  i233 := by kernel_rfl
  m17 := by kernel_rfl
  m18 := by kernel_rfl
  m19 := by kernel_rfl }
open Go.RowKit Go.Sort Go.Lib in
theorem Tryz.strconv_Itoa (n : Int) (h0 : -9223372036854775808 ≤ n) (h1 : n ≤ 9223372036854775807) (w : World) (htab : Lib.TabIs Tryz.prog w "internal/strconv.uint64pow10" .u64 Lib.pow10Tab) :
    Calls Tryz.prog 38 #[.int .i64 n] w fun e w' => e = .returned (.string ⟨(Lib.itoa n).toArray⟩) ∧ ∃ k os, w' = grow (w.drewN k) os := Any.strconv_Itoa Tryz.laysM171 n h0 h1 w htab
def Tryz.lays171_ren : Go.Shelf.Ren := ⟨fun | 171 => 38 | 243 => 58 | 246 => 77 | 283 => 105 | 284 => 106 | 285 => 107 | 286 => 108 | 129 => 132 | 317 => 131 | 318 => 133 | 319 => 134 | 320 => 135 | 337 => 153 | 338 => 154 | n => n, fun | 3 => 3 | 9 => 9 | 2 => 2 | 4 => 4 | 171 => 141 | 0 => 0 | 53 => 142 | 37 => 22 | 5 => 5 | 173 => 145 | 212 => 161 | 51 => 162 | 20 => 20 | 213 => 163 | 46 => 157 | 232 => 204 | 233 => 205 | n => n, fun | 17 => 1 | 18 => 4 | 19 => 5 | n => n⟩
theorem Tryz.lays171 : Go.Proofs.Lays.n171 Tryz.prog Tryz.lays171_ren := {
  mixed := by kernel_rfl
  f129 := Tryz.func132.trans (congrArg some (by kernel_rfl))
  f171 := Tryz.func38.trans (congrArg some (by kernel_rfl))
  f243 := Tryz.func58.trans (congrArg some (by kernel_rfl))
  f246 := Tryz.func77.trans (congrArg some (by kernel_rfl))
  f283 := Tryz.func105.trans (congrArg some (by kernel_rfl))
  f284 := Tryz.func106.trans (congrArg some (by kernel_rfl))
  f285 := Tryz.func107.trans (congrArg some (by kernel_rfl))
  f286 := Tryz.func108.trans (congrArg some (by kernel_rfl))
  f317 := Tryz.func131.trans (congrArg some (by kernel_rfl))
  f318 := Tryz.func133.trans (congrArg some (by kernel_rfl))
  f319 := Tryz.func134.trans (congrArg some (by kernel_rfl))
  f320 := Tryz.func135.trans (congrArg some (by kernel_rfl))
  f337 := Tryz.func153.trans (congrArg some (by kernel_rfl))
  f338 := Tryz.func154.trans (congrArg some (by kernel_rfl))
  t0 := Tryz.underlying0
  a0 := Tryz.isAgg0
  z0 := Tryz.sizeOf0
  v0 := Tryz.zeroValue0
  t2 := Tryz.underlying2
  a2 := Tryz.isAgg2
  z2 := Tryz.sizeOf2
  v2 := Tryz.zeroValue2
  t3 := Tryz.underlying3
  a3 := Tryz.isAgg3
  z3 := Tryz.sizeOf3
  v3 := Tryz.zeroValue3
  t4 := Tryz.underlying4
  a4 := Tryz.isAgg4
  z4 := Tryz.sizeOf4
  v4 := Tryz.zeroValue4
  t5 := Tryz.underlying5
  a5 := Tryz.isAgg5
  z5 := Tryz.sizeOf5
  v5 := Tryz.zeroValue5
  t9 := Tryz.underlying9
  a9 := Tryz.isAgg9
  z9 := Tryz.sizeOf9
  v9 := Tryz.zeroValue9
  t20 := Tryz.underlying20
  a20 := Tryz.isAgg20
  z20 := Tryz.sizeOf20
  v20 := Tryz.zeroValue20
  t37 := Tryz.underlying22
  a37 := Tryz.isAgg22
  z37 := Tryz.sizeOf22
  v37 := Tryz.zeroValue22
  t46 := Tryz.underlying157
  a46 := Tryz.isAgg157
  z46 := Tryz.sizeOf157
  v46 := Tryz.zeroValue157
  t51 := Tryz.underlying162
  a51 := Tryz.isAgg162
  z51 := Tryz.sizeOf162
  v51 := Tryz.zeroValue162
  t53 := Tryz.underlying142
  a53 := Tryz.isAgg142
  z53 := Tryz.sizeOf142
  v53 := Tryz.zeroValue142
  t171 := Tryz.underlying141
  a171 := Tryz.isAgg141
  z171 := Tryz.sizeOf141
  v171 := Tryz.zeroValue141
  t173 := Tryz.underlying145
  a173 := Tryz.isAgg145
  z173 := Tryz.sizeOf145
  v173 := Tryz.zeroValue145
  t212 := Tryz.underlying161
  a212 := Tryz.isAgg161
  z212 := Tryz.sizeOf161
  v212 := Tryz.zeroValue161
  t213 := Tryz.underlying163
  a213 := Tryz.isAgg163
  z213 := Tryz.sizeOf163
  t232 := Tryz.underlying204
  a232 := Tryz.isAgg204
  z232 := Tryz.sizeOf204
  v232 := Tryz.zeroValue204
  t233 := Tryz.underlying205
  a233 := Tryz.isAgg205
  z233 := Tryz.sizeOf205
  v233 := Tryz.zeroValue205
  g17 := by kernel_rfl
  g18 := by kernel_rfl
  g19 := by kernel_rfl }
open Go.RowKit Go.Sort Go.Lib in
theorem Tryz.strconv_Itoa_small (i : Nat) (hi : i < 100) (w : World) :
    Calls Tryz.prog 38 #[.int .i64 i] w fun e w' => e = .returned (.string ⟨(Lib.decDigits i).toArray⟩) ∧ w' = w := Any.strconv_Itoa_small Tryz.lays171 i hi w
open Go.RowKit Go.Lib in
def Tryz.lays146_ren : Go.Shelf.Ren := ⟨fun | 146 => 35 | 221 => 54 | 268 => 70 | 138 => 71 | 143 => 72 | 195 => 92 | 197 => 93 | 218 => 94 | 219 => 95 | 260 => 115 | 217 => 116 | 225 => 117 | 224 => 118 | 267 => 119 | 266 => 139 | 314 => 140 | n => n, fun | 9 => 9 | 31 => 60 | 3 => 3 | 4 => 4 | 0 => 0 | 105 => 139 | 21 => 21 | 5 => 5 | 46 => 157 | 119 => 168 | 139 => 171 | 138 => 170 | 146 => 172 | 51 => 162 | n => n, fun | 1 => 0 | 3 => 2 | 4 => 3 | n => n⟩
theorem Tryz.lays146 : Go.Proofs.Lays.n146 Tryz.prog Tryz.lays146_ren := {
  mixed := by kernel_rfl
  f138 := Tryz.func71.trans (congrArg some (by kernel_rfl))
  f143 := Tryz.func72.trans (congrArg some (by kernel_rfl))
  f146 := Tryz.func35.trans (congrArg some (by kernel_rfl))
  f195 := Tryz.func92.trans (congrArg some (by kernel_rfl))
  f197 := Tryz.func93.trans (congrArg some (by kernel_rfl))
  f217 := Tryz.func116.trans (congrArg some (by kernel_rfl))
  f218 := Tryz.func94.trans (congrArg some (by kernel_rfl))
  f219 := Tryz.func95.trans (congrArg some (by kernel_rfl))
  f221 := Tryz.func54.trans (congrArg some (by kernel_rfl))
  f224 := Tryz.func118.trans (congrArg some (by kernel_rfl))
  f225 := Tryz.func117.trans (congrArg some (by kernel_rfl))
  f260 := Tryz.func115.trans (congrArg some (by kernel_rfl))
  f266 := Tryz.func139.trans (congrArg some (by kernel_rfl))
  f267 := Tryz.func119.trans (congrArg some (by kernel_rfl))
  f268 := Tryz.func70.trans (congrArg some (by kernel_rfl))
  f314 := Tryz.func140.trans (congrArg some (by kernel_rfl))
  t0 := Tryz.underlying0
  a0 := Tryz.isAgg0
  z0 := Tryz.sizeOf0
  v0 := Tryz.zeroValue0
  t3 := Tryz.underlying3
  a3 := Tryz.isAgg3
  z3 := Tryz.sizeOf3
  v3 := Tryz.zeroValue3
  t4 := Tryz.underlying4
  a4 := Tryz.isAgg4
  z4 := Tryz.sizeOf4
  v4 := Tryz.zeroValue4
  t5 := Tryz.underlying5
  a5 := Tryz.isAgg5
  z5 := Tryz.sizeOf5
  v5 := Tryz.zeroValue5
  t9 := Tryz.underlying9
  a9 := Tryz.isAgg9
  z9 := Tryz.sizeOf9
  v9 := Tryz.zeroValue9
  t21 := Tryz.underlying21
  a21 := Tryz.isAgg21
  z21 := Tryz.sizeOf21
  v21 := Tryz.zeroValue21
  t31 := Tryz.underlying60
  a31 := Tryz.isAgg60
  z31 := Tryz.sizeOf60
  v31 := Tryz.zeroValue60
  t46 := Tryz.underlying157
  a46 := Tryz.isAgg157
  z46 := Tryz.sizeOf157
  v46 := Tryz.zeroValue157
  t51 := Tryz.underlying162
  a51 := Tryz.isAgg162
  z51 := Tryz.sizeOf162
  v51 := Tryz.zeroValue162
  t105 := Tryz.underlying139
  a105 := Tryz.isAgg139
  z105 := Tryz.sizeOf139
  v105 := Tryz.zeroValue139
  t119 := Tryz.underlying168
  a119 := Tryz.isAgg168
  z119 := Tryz.sizeOf168
  t138 := Tryz.underlying170
  a138 := Tryz.isAgg170
  z138 := Tryz.sizeOf170
  v138 := Tryz.zeroValue170
  t139 := Tryz.underlying171
  a139 := Tryz.isAgg171
  z139 := Tryz.sizeOf171
  v139 := Tryz.zeroValue171
  t146 := Tryz.underlying172
  a146 := Tryz.isAgg172
  z146 := Tryz.sizeOf172
  v146 := Tryz.zeroValue172
  g1 := by kernel_rfl
  g3 := by kernel_rfl
  g4 := by kernel_rfl }
open Go.RowKit Go.Lib in
theorem Tryz.strings_Split (s sep : ByteArray) (m : Int) (w : World) (hs : s.size < 4294967281) (hm : w.cell? ⟨0, 0, none⟩ = some (.int .i64 m)) (h1 : 1 ≤ sep.size) :
    Calls Tryz.prog 35 #[.string s, .string sep] w fun e w' =>
      e = .returned (.slice (some ⟨w.heap.size, 0, none⟩) (Lib.countB s sep + 1) (Lib.countB s sep + 1)) ∧ w' = w.alloc (.cells ((Lib.splitB sep 0 (Lib.countB s sep) s).map Value.string).toArray 9) := Any.strings_Split Tryz.lays146 (by kernel_rfl) s sep m w hs hm h1
end Go.Proofs
namespace Go.Proofs.YtlkdmpfifpkpaaaGreatDoor
open Go.RowKit

/-- the block of a state -/
def bkA (k : Nat) : Value := .agg #[.int .i64 (stB k).n, .bool (stB k).i, .bool (stB k).o]
/-- the block behind a step: the zero block where there is none -/
def bsV (k : Nat) : Value := if k < 5 then bkA k else .agg #[.int .i64 0, .bool false, .bool false]
theorem stI_B {n : Int} {i o : Bool} {k : Nat} (h : stI n i o = k) (hk : k < 5) : n = (stB k).n ∧ i = (stB k).i ∧ o = (stB k).o := by
  have key : ∀ j, bkE j n i o = true → n = (stB j).n ∧ i = (stB j).i ∧ o = (stB j).o := fun j hj => by
    simp only [bkE, Bool.and_eq_true, decide_eq_true_eq] at hj
    exact ⟨hj.1.symm, hj.2.1.symm, hj.2.2.symm⟩
  unfold stI at h
  split at h
  · subst h; exact key _ (by assumption)
  · split at h
    · subst h; exact key _ (by assumption)
    · split at h
      · subst h; exact key _ (by assumption)
      · split at h
        · subst h; exact key _ (by assumption)
        · split at h
          · subst h; exact key _ (by assumption)
          · omega
end Go.Proofs.YtlkdmpfifpkpaaaGreatDoor
namespace Go.Proofs.YtlkdmpfifpkpaaaGreatDoor
open Go.RowKit

theorem bsI_size {n : Int} {i o : Bool} {s : ByteArray} (h : ¬ s.size = 1) : bsI n i o s = 5 := if_neg h
theorem bsI_one {n : Int} {i o : Bool} {s : ByteArray} (h : s.size = 1) : bsI n i o s = nx (stI n i o) (bt s 0) := if_pos h
theorem bsI_no {n : Int} {i o : Bool} {s : ByteArray} (h : ¬ stI n i o < 5) : bsI n i o s = 5 := by
  unfold bsI
  split
  · obtain ⟨k, hk⟩ : ∃ k, stI n i o = k + 5 := ⟨stI n i o - 5, by omega⟩
    rw [hk]; rfl
  · rfl
/-- what BlockStep hands back -/
def BsRes (j : Nat) (w : World) (e : Ending) (w' : World) : Prop := e = .returned (.tuple #[bsV j, .bool (decide (j < 5))]) ∧ Below w.heap.size w w'
/-- the boxes of a step -/
structure BsM (w wr : World) (n : Int) (i o : Bool) : Prop where
  box : Bx wr w.heap.size 76 #[.int .i64 n, .bool i, .bool o]
  res : Bx wr (w.heap.size + 1) 76 #[.int .i64 0, .bool false, .bool false]
  bl : Below w.heap.size w wr
theorem BsM.below {w wr w' : World} {n : Int} {i o : Bool} {B : Nat} (h : BsM w wr n i o) (hb : Below B wr w') (hB : B = wr.heap.size) : BsM w w' n i o := by
  subst hB
  exact ⟨h.box.below hb h.box.lt, h.res.below hb h.res.lt, h.bl.trans (hb.mono h.bl.size)⟩
theorem BsM.new (w : World) (n : Int) (i o : Bool) : BsM w ((w.alloc (.cells #[.int .i64 n, .bool i, .bool o] 76)).alloc (.cells #[.int .i64 0, .bool false, .bool false] 76)) n i o :=
  ⟨(Bx.new _ _ _).alloc _, Bx.newAt (by simp), ((Below.refl _ _).alloc (Nat.le_refl _) _).alloc (by simp) _⟩
theorem BsM.done {w wr : World} {n : Int} {i o : Bool} (h : BsM w wr n i o) (a b c : Value) : Below w.heap.size w (((wr.setCell ⟨w.heap.size + 1, 0, none⟩ a).setCell ⟨w.heap.size + 1, 1, none⟩ b).setCell ⟨w.heap.size + 1, 2, none⟩ c) :=
  ((h.bl.setCell (by dsimp only; omega) _).setCell (by dsimp only; omega) _).setCell (by dsimp only; omega) _
set_option linter.unusedSimpArgs false in
set_option maxRecDepth 100000 in
set_option maxHeartbeats 4000000 in
theorem implStep_any (n : Int) (i o : Bool) (s : ByteArray) (w : World) :
    Calls Tryz.prog 161 #[.agg #[.int .i64 n, .bool i, .bool o], .string s] w (BsRes (bsI n i o s) w) := by
  have HM0 := Lib.hid (BsM.new w n i o)
  by_cases h5 : ¬ stI n i o < 5
  · have HJ := Lib.hid (bsI_no (s := s) h5)
    have HD : Hid (decide (stI n i o < 5) = false) := decide_eq_false h5
    clear h5
    go_enter Tryz.func161, Tryz.ntmps161
    go_wp2_with fail
    refine (instr_any n i o _).mono ?_
    rintro e w1 ⟨rfl, hb⟩
    have HM := Lib.hid (HM0.out.below hb rfl)
    have hrc := HM.out.res.cell
    have hrf := HM.out.res.free
    clear hb
    rw [HD.out]
    go_wp2_with fail
    exact bodyPost_ret (v := .tuple #[.agg #[.int .i64 0, .bool false, .bool false], .bool false]) (by simp [results, Tryz.results161, go_sem, hrc]) rfl ⟨by rw [HJ.out]; rfl, HM.out.done _ _ _⟩
  replace h5 := Decidable.not_not.1 h5
  have HD : Hid (decide (stI n i o < 5) = true) := decide_eq_true h5
  have HIV := Lib.hid (inV_at h5)
  by_cases h1 : ¬ s.size = 1
  · have HJ := Lib.hid (bsI_size (n := n) (i := i) (o := o) h1)
    have g1 : ((s.size : Int) != 1) = true := by simp; omega
    clear h1
    go_enter Tryz.func161, Tryz.ntmps161
    go_wp2_with fail
    refine (instr_any n i o _).mono ?_
    rintro e w1 ⟨rfl, hb⟩
    have HM := Lib.hid (HM0.out.below hb rfl)
    have hrc := HM.out.res.cell
    have hrf := HM.out.res.free
    clear hb
    rw [HD.out]
    go_wp2_with fail
    exact bodyPost_ret (v := .tuple #[.agg #[.int .i64 0, .bool false, .bool false], .bool false]) (by simp [results, Tryz.results161, go_sem, hrc]) rfl ⟨by rw [HJ.out]; rfl, HM.out.done _ _ _⟩
  replace h1 := Decidable.not_not.1 h1
  have HB1 := Lib.hid (bsI_one (n := n) (i := i) (o := o) h1)
  have g1 : ((s.size : Int) != 1) = false := by simp; omega
  have hs0 : 0 < s.size := by omega
  have hs0' : (0 : Int) < (s.size : Int) := by omega
  have hbt := bt_at hs0
  clear h1
  go_enter Tryz.func161, Tryz.ntmps161
  go_wp2_with fail
  refine (instr_any n i o _).mono ?_
  rintro e w1 ⟨rfl, hb⟩
  have HM := Lib.hid (HM0.out.below hb rfl)
  have hrc := HM.out.res.cell
  have hrf := HM.out.res.free
  clear hb
  rw [HD.out, HIV.out]
  go_wp2_with fail
  refine (stateBehind_any _ (bt s 0) _ h5).mono ?_
  rintro e w2 ⟨rfl, rfl⟩
  have hle := nx_le (stI n i o) (bt s 0)
  have h6 : nx (stI n i o) (bt s 0) = 0 ∨ nx (stI n i o) (bt s 0) = 1 ∨ nx (stI n i o) (bt s 0) = 2 ∨ nx (stI n i o) (bt s 0) = 3 ∨ nx (stI n i o) (bt s 0) = 4 ∨ nx (stI n i o) (bt s 0) = 5 := by omega
  clear hle
  rcases h6 with HNX | HNX | HNX | HNX | HNX | HNX <;> replace HNX := Lib.hid HNX
  · have HJ2 : Hid (bsI n i o s = 0) := by show _ = _; rw [HB1.out]; exact HNX.out
    have hv : Hid (sbV (stI n i o) (bt s 0) = ifV 0) := by show _ = _; unfold sbV; rw [HNX.out]; rfl
    have hme := fun (f : Nat) (w : World) => normalState_meth f w
    rw [hv.out, HNX.out]
    rw [show ifV 0 = .iface 133 (.agg #[]) from rfl]
    go_wp2_with fail
    refine (normalState_block _).mono ?_
    rintro e w3 ⟨rfl, hb⟩
    have HM3 := Lib.hid (HM.out.below hb rfl)
    clear hb hrc hrf
    have hrc := HM3.out.res.cell
    have hrf := HM3.out.res.free
    go_wp2_with fail
    exact bodyPost_ret (v := .tuple #[.agg #[.int .i64 0, .bool false, .bool false], .bool true]) (by simp [results, Tryz.results161, go_sem, hrc]) rfl ⟨by rw [HJ2.out]; rfl, HM3.out.done _ _ _⟩
  · have HJ2 : Hid (bsI n i o s = 1) := by show _ = _; rw [HB1.out]; exact HNX.out
    have hv : Hid (sbV (stI n i o) (bt s 0) = ifV 1) := by show _ = _; unfold sbV; rw [HNX.out]; rfl
    have hme := fun (f : Nat) (w : World) => offeredState_meth f w
    rw [hv.out, HNX.out]
    rw [show ifV 1 = .iface 134 (.agg #[]) from rfl]
    go_wp2_with fail
    refine (offeredState_block _).mono ?_
    rintro e w3 ⟨rfl, hb⟩
    have HM3 := Lib.hid (HM.out.below hb rfl)
    clear hb hrc hrf
    have hrc := HM3.out.res.cell
    have hrf := HM3.out.res.free
    go_wp2_with fail
    exact bodyPost_ret (v := .tuple #[.agg #[.int .i64 0, .bool false, .bool true], .bool true]) (by simp [results, Tryz.results161, go_sem, hrc]) rfl ⟨by rw [HJ2.out]; rfl, HM3.out.done _ _ _⟩
  · have HJ2 : Hid (bsI n i o s = 2) := by show _ = _; rw [HB1.out]; exact HNX.out
    have hv : Hid (sbV (stI n i o) (bt s 0) = ifV 2) := by show _ = _; unfold sbV; rw [HNX.out]; rfl
    have hme := fun (f : Nat) (w : World) => clearState_meth f w
    rw [hv.out, HNX.out]
    rw [show ifV 2 = .iface 135 (.agg #[]) from rfl]
    go_wp2_with fail
    refine (clearState_block _).mono ?_
    rintro e w3 ⟨rfl, hb⟩
    have HM3 := Lib.hid (HM.out.below hb rfl)
    clear hb hrc hrf
    have hrc := HM3.out.res.cell
    have hrf := HM3.out.res.free
    go_wp2_with fail
    exact bodyPost_ret (v := .tuple #[.agg #[.int .i64 1, .bool false, .bool false], .bool true]) (by simp [results, Tryz.results161, go_sem, hrc]) rfl ⟨by rw [HJ2.out]; rfl, HM3.out.done _ _ _⟩
  · have HJ2 : Hid (bsI n i o s = 3) := by show _ = _; rw [HB1.out]; exact HNX.out
    have hv : Hid (sbV (stI n i o) (bt s 0) = ifV 3) := by show _ = _; unfold sbV; rw [HNX.out]; rfl
    have hme := fun (f : Nat) (w : World) => insideState_meth f w
    rw [hv.out, HNX.out]
    rw [show ifV 3 = .iface 136 (.agg #[]) from rfl]
    go_wp2_with fail
    refine (insideState_block _).mono ?_
    rintro e w3 ⟨rfl, hb⟩
    have HM3 := Lib.hid (HM.out.below hb rfl)
    clear hb hrc hrf
    have hrc := HM3.out.res.cell
    have hrf := HM3.out.res.free
    go_wp2_with fail
    exact bodyPost_ret (v := .tuple #[.agg #[.int .i64 2, .bool true, .bool false], .bool true]) (by simp [results, Tryz.results161, go_sem, hrc]) rfl ⟨by rw [HJ2.out]; rfl, HM3.out.done _ _ _⟩
  · have HJ2 : Hid (bsI n i o s = 4) := by show _ = _; rw [HB1.out]; exact HNX.out
    have hv : Hid (sbV (stI n i o) (bt s 0) = ifV 4) := by show _ = _; unfold sbV; rw [HNX.out]; rfl
    have hme := fun (f : Nat) (w : World) => passedState_meth f w
    rw [hv.out, HNX.out]
    rw [show ifV 4 = .iface 137 (.agg #[]) from rfl]
    go_wp2_with fail
    refine (passedState_block _).mono ?_
    rintro e w3 ⟨rfl, hb⟩
    have HM3 := Lib.hid (HM.out.below hb rfl)
    clear hb hrc hrf
    have hrc := HM3.out.res.cell
    have hrf := HM3.out.res.free
    go_wp2_with fail
    exact bodyPost_ret (v := .tuple #[.agg #[.int .i64 2, .bool false, .bool false], .bool true]) (by simp [results, Tryz.results161, go_sem, hrc]) rfl ⟨by rw [HJ2.out]; rfl, HM3.out.done _ _ _⟩
  · have HJ : Hid (bsI n i o s = 5) := by show _ = _; rw [HB1.out]; exact HNX.out
    rw [HNX.out]
    go_wp2_with fail
    exact bodyPost_ret (v := .tuple #[.agg #[.int .i64 0, .bool false, .bool false], .bool false]) (by simp [results, Tryz.results161, go_sem, hrc]) rfl ⟨by rw [HJ.out]; rfl, HM.out.done _ _ _⟩
end Go.Proofs.YtlkdmpfifpkpaaaGreatDoor
namespace Go.Proofs.YtlkdmpfifpkpaaaGreatDoor
open Go.RowKit

/-- the state behind the letters of a text; 5 where there is none -/
def rnS (s : Nat) (l : List UInt8) : Nat := l.foldl (fun s c => nx s (c.toNat : Int)) s
theorem rnS_app (s : Nat) (a b : List UInt8) : rnS s (a ++ b) = rnS (rnS s a) b := List.foldl_append
theorem rnS_five : ∀ l, rnS 5 l = 5
  | [] => rfl
  | _ :: l => rnS_five l
theorem rnS_le {s : Nat} (hs : s ≤ 5) : ∀ l, rnS s l ≤ 5
  | [] => hs
  | c :: l => rnS_le (nx_le s c.toNat) l
end Go.Proofs.YtlkdmpfifpkpaaaGreatDoor
namespace Go.Proofs.YtlkdmpfifpkpaaaGreatDoor
open Go.RowKit

/-- the boxes of the reference's run -/
structure SrM (w wr : World) (q : Nat) : Prop where
  box : Bx wr w.heap.size 76 #[.int .i64 (stB q).n, .bool (stB q).i, .bool (stB q).o]
  res : Bx wr (w.heap.size + 1) 76 #[.int .i64 0, .bool false, .bool false]
  bl : Below w.heap.size w wr
theorem SrM.below {w wr w' : World} {q : Nat} (h : SrM w wr q) (hb : Below wr.heap.size wr w') : SrM w w' q :=
  ⟨h.box.below hb h.box.lt, h.res.below hb h.res.lt, h.bl.trans (hb.mono h.bl.size)⟩
theorem SrM.sz {w wr : World} {q : Nat} (h : SrM w wr q) : w.heap.size + 1 < wr.heap.size := h.res.lt
theorem SrM.done {w wr : World} {q : Nat} (h : SrM w wr q) (a b c : Value) : Below w.heap.size w (((wr.setCell ⟨w.heap.size + 1, 0, none⟩ a).setCell ⟨w.heap.size + 1, 1, none⟩ b).setCell ⟨w.heap.size + 1, 2, none⟩ c) :=
  ((h.bl.setCell (by dsimp only; omega) _).setCell (by dsimp only; omega) _).setCell (by dsimp only; omega) _
end Go.Proofs.YtlkdmpfifpkpaaaGreatDoor
namespace Go.Proofs.YtlkdmpfifpkpaaaGreatDoor
open Go.RowKit

/-- a row of notes -/
def NtC (w : World) (b off : Nat) (ns : List (Int × ByteArray)) : Prop :=
  ∀ k, k < ns.length → w.cell? ⟨b, off + k * 2, none⟩ = some (.int .i64 (nM ns k)) ∧ w.cell? ⟨b, off + k * 2 + 1, none⟩ = some (.string (nL ns k))
theorem NtC.keep {w w' : World} {b off : Nat} {ns : List (Int × ByteArray)} (h : NtC w b off ns) (hb : Below w.heap.size w w') : NtC w' b off ns := fun k hk => by
  obtain ⟨h1, h2⟩ := h k hk
  have hlt : b < w.heap.size := World.block_lt_of_cell? w ⟨b, off + k * 2, none⟩ h1
  exact ⟨by rw [hb.cell (p := ⟨b, off + k * 2, none⟩) hlt]; exact h1, by rw [hb.cell (p := ⟨b, off + k * 2 + 1, none⟩) hlt]; exact h2⟩
end Go.Proofs.YtlkdmpfifpkpaaaGreatDoor
