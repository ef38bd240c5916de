/-
  Parts of the proof of fnExecuteFit_proved: Jf Jg Jh Jj Bn Bl Cb Lp Ra. No condition.
-/
import Derived.Test.YtlkdmpfifpkpaaaGreatDoorChecked
import Derived.Laws.BitsAllLaws
import Derived.Deep.RegionWith
import Derived.Shelf.Strings.Builder1
import Derived.Shelf.Strings.Builder2
import Derived.Shelf.Strings.OnBuilder
import Derived.Shelf.Strings.BuilderF
import Derived.Shelf.Strconv.Itoa0
import Derived.Shelf.Strconv.Itoa1
import Derived.Shelf.LaysM
import Derived.Shelf.Strconv.Itoa2
import Derived.Shelf.Strconv.Itoa3
import Derived.Shelf.Strings.Search1
import Derived.Shelf.Strings.Search2
import Derived.Shelf.Strings.Search3
import Derived.Shelf.Strings.Count
import Derived.Shelf.Strings.Shaped
import Derived.Shelf.Strings.Split
import Derived.Shelf.Strings.SplitShaped
import Derived.Shelf.Unicode.DecodeSlow
import Derived.Test.YtlkdmpfifpkpaaaGreatDoorProg
import Derived.Deep.QuietTactic
import Derived.BigQuiet
import Derived.Lib.Builder
import Derived.Lib.AppendStr
import Derived.Lib.UnsafeStr
import Derived.Lib.Strings
import Derived.Lib.Slices
import Derived.Laws.Externs
import Derived.WalkKit
import Derived.WalkSpells
import Derived.WalkLawsBesides
import Derived.Lib.Hide
import Derived.Deep.RegionHeld3
import Derived.Deep.DeepFit
import Derived.Recover
import Derived.Defers
import Derived.Lib.SplitLaws
import Derived.Lib.SlBytesRow
import Derived.Lib.IndexLaws
import Derived.Test.YtlkdmpfifpkpaaaGreatDoorU01
import Derived.Test.YtlkdmpfifpkpaaaGreatDoorU02
import Derived.Test.YtlkdmpfifpkpaaaGreatDoorU03
import Derived.Test.YtlkdmpfifpkpaaaGreatDoorU04
namespace Go.Proofs.YtlkdmpfifpkpaaaGreatDoor
open Go.RowKit

/-- blocks made since a world are as they were -/
def Kp (B : Nat) (w w' : World) : Prop := ∀ b, B ≤ b → b < w.heap.size → w'.heap[b]? = w.heap[b]?
theorem Bx.kp {w w' : World} {b B : Nat} {t : TypeId} {cs : Array Value} (h : Bx w b t cs) (hk : Kp B w w') (hb : B ≤ b) : Bx w' b t cs := h.of_block (hk b hb h.lt)
theorem cr0 (a : Array Value) (w : World) : Sem.run Tryz.prog (callFunc 96 a) w = .ok (.enter 96 a) w := by kernel_rfl
theorem cr1 (a : Array Value) (w : World) : Sem.run Tryz.prog (callFunc 97 a) w = .ok (.enter 97 a) w := by kernel_rfl
theorem cr2 (a : Array Value) (w : World) : Sem.run Tryz.prog (callFunc 98 a) w = .ok (.enter 98 a) w := by kernel_rfl
theorem cr3 (a : Array Value) (w : World) : Sem.run Tryz.prog (callFunc 99 a) w = .ok (.enter 99 a) w := by kernel_rfl
theorem cr4 (a : Array Value) (w : World) : Sem.run Tryz.prog (callFunc 100 a) w = .ok (.enter 100 a) w := by kernel_rfl
theorem cr5 (a : Array Value) (w : World) : Sem.run Tryz.prog (callFunc 101 a) w = .ok (.enter 101 a) w := by kernel_rfl
theorem cr6 (a : Array Value) (w : World) : Sem.run Tryz.prog (callFunc 102 a) w = .ok (.enter 102 a) w := by kernel_rfl
theorem cr7 (a : Array Value) (w : World) : Sem.run Tryz.prog (callFunc 103 a) w = .ok (.enter 103 a) w := by kernel_rfl
theorem cr8 (a : Array Value) (w : World) : Sem.run Tryz.prog (callFunc 104 a) w = .ok (.enter 104 a) w := by kernel_rfl
theorem cmF_run {k : Nat} (h : k < 9) (a : Array Value) (w : World) : Sem.run Tryz.prog (callFunc (cmF k) a) w = .ok (.enter (cmF k) a) w := by
  match k, h with
  | 0, _ => exact cr0 a w
  | 1, _ => exact cr1 a w
  | 2, _ => exact cr2 a w
  | 3, _ => exact cr3 a w
  | 4, _ => exact cr4 a w
  | 5, _ => exact cr5 a w
  | 6, _ => exact cr6 a w
  | 7, _ => exact cr7 a w
  | 8, _ => exact cr8 a w
set_option maxRecDepth 100000 in
set_option maxHeartbeats 4000000 in
set_option linter.unusedSimpArgs false in
theorem do_some (s bw ow n c k : Nat) (w0 : ByteArray) (R : ByteArray → World → Prop) (w : World) (hn : 0 < n) (hn2 : n ≤ 1000000) (h0 : w.cell? ⟨bw, ow, none⟩ = some (.string w0)) (hk : k < 9) (hix : ixC w0 = k) (hmn : cmN k < 0 ∨ cmN k = n)
    (HC : ∀ W, Below w.heap.size w W → Calls Tryz.prog (cmF k) #[.pointer (some ⟨s, 0, none⟩), .slice (some ⟨bw, ow, none⟩) n c] W fun e w' => ∃ t, e = .returned (.string t) ∧ Kp w.heap.size W w' ∧ R t w') :
    Calls Tryz.prog 57 #[.pointer (some ⟨s, 0, none⟩), .slice (some ⟨bw, ow, none⟩) n c] w fun e w' => ∃ t, e = .returned (.string t) ∧ R t w' := by
  have hbw : bw < w.heap.size := World.block_lt_of_cell? w ⟨bw, ow, none⟩ h0
  have H0 := Lib.hid h0
  have HCC := Lib.hid HC
  have hmf : ∀ (fn : Fn) (first cap : Array Value) (w : World), (Instr.makeFunc fn first cap).run Tryz.prog w = .ok (.func fn first cap) w := fun _ _ _ _ => rfl
  have HX0 : Hid (Bx (w.alloc (.cells #[.slice (some ⟨bw, ow, none⟩) n c] 60)) w.heap.size 60 #[.slice (some ⟨bw, ow, none⟩) n c]) := Bx.new _ _ _
  have HB0 : Hid (Below w.heap.size w (w.alloc (.cells #[.slice (some ⟨bw, ow, none⟩) n c] 60))) := below_all _ _
  clear h0 HC
  go_enter Tryz.func57, Tryz.ntmps57
  go_wp2_with fail
  generalize w.alloc (.cells #[.slice (some ⟨bw, ow, none⟩) n c] 60) = w1 at *
  refine (commands_any w1).mono ?_
  rintro e w2 ⟨rfl, rfl⟩
  have HT : Hid (Bx (w1.alloc (.cells cmC 119)) w1.heap.size 119 cmC) := Bx.new _ _ _
  have HX1 : Hid (Bx (w1.alloc (.cells cmC 119)) w.heap.size 60 #[.slice (some ⟨bw, ow, none⟩) n c]) := HX0.out.alloc _
  have HB1 : Hid (Below w.heap.size w (w1.alloc (.cells cmC 119))) := HB0.out.alloc HB0.out.size _
  have hz1 := HB0.out.size
  go_wp2_with fail
  refine (indexFunc_any w1.heap.size w.heap.size bw ow n c w0 (w1.alloc (.cells cmC 119)) hn HT.out HX1.out (by rw [HB1.out.cell (p := ⟨bw, ow, none⟩) hbw]; exact H0.out)).mono ?_
  rintro e w3 ⟨rfl, hb3⟩
  have HT3 := Lib.hid (HT.out.below hb3 HT.out.lt)
  have HX3 := Lib.hid (HX1.out.below hb3 HX1.out.lt)
  have HB3 := Lib.hid (HB1.out.trans (hb3.mono HB1.out.size))
  have hz3 := HB3.out.size
  have HIR : Hid (ixR w0 = k) := by show _ = _; unfold ixR; rw [hix, if_pos hk]
  rw [HIR.out]
  clear hb3 HT HX1 HB1 HX0 HB0
  obtain ⟨_, c1, c2⟩ := cmC_at hk
  have HCL : Hid (∀ W, Bx W w1.heap.size 119 cmC → Bx W w.heap.size 60 #[.slice (some ⟨bw, ow, none⟩) n c] → (W.cell? ⟨w1.heap.size, k * 3 + 1, none⟩ = some (.int .i64 (cmN k)) ∧ W.cell? ⟨w1.heap.size, k * 3 + 2, none⟩ = some (.func (.func (cmF k)) #[] #[])) ∧ W.cell? ⟨w.heap.size, 0, none⟩ = some (.slice (some ⟨bw, ow, none⟩) n c)) := fun W g1 g2 =>
    ⟨⟨(g1.cell (k * 3 + 1)).trans c1, (g1.cell (k * 3 + 2)).trans c2⟩, g2.cell 0⟩
  clear c1 c2
  have HF := cmF_run hk
  generalize cmN k = nk at *
  generalize cmF k = f at *
  have hk0 : ¬ (k : Int) < 0 := by omega
  have hk9 : (k : Int) < 9 := by omega
  have hkd : decide ((k : Int) < 0) = false := decide_eq_false hk0
  have HBd : Hid (Below w3.heap.size w3 w3.drew) := (Below.refl _ _).drew
  rcases hmn with hneg | heq
  · have hg1 : decide (0 ≤ nk) = false := decide_eq_false (by omega)
    go_wp2_with fail
    refine wp_region_held_drew (S := fun W => (W.cell? ⟨w1.heap.size, k * 3 + 1, none⟩ = some (.int .i64 nk) ∧ W.cell? ⟨w1.heap.size, k * 3 + 2, none⟩ = some (.func (.func f) #[] #[])) ∧ W.cell? ⟨w.heap.size, 0, none⟩ = some (.slice (some ⟨bw, ow, none⟩) n c)) (by kernel_rfl) (HCL.out _ (HT3.out.below HBd.out HT3.out.lt) (HX3.out.below HBd.out HX3.out.lt)) (fun hHeld => ?_)
    refine wpAnyH_take (i := 0) (oi := ?_) (v := ?_) ?_ (by kernel_rfl) (by kernel_rfl) (by kernel_rfl) ?_ ?_ (by assumption) ?_
    rotate_left 2
    · simp only [List.getElem?_toArray, List.getElem?_cons_succ, List.getElem?_cons_zero]; rfl
    · exact fun _ _ _ h => h
    · first
        | (refine Or.inr ⟨?_, ?_⟩ <;> rfl)
        | (refine Or.inl ⟨?_, ?_⟩; · rfl
           intro w hSw; (try dsimp only at hSw); go_simp; (try with_reducible rfl); done)
    try simp only [Act.put, List.setIfInBounds_toArray, List.set_cons_zero, List.set_cons_succ]
    refine wpAnyH_take (i := 1) (oi := ?_) (v := ?_) ?_ (by kernel_rfl) (by kernel_rfl) (by kernel_rfl) ?_ ?_ (by assumption) ?_
    rotate_left 2
    · simp only [List.getElem?_toArray, List.getElem?_cons_succ, List.getElem?_cons_zero]; rfl
    · exact fun _ _ _ h => h
    · first
        | (refine Or.inr ⟨?_, ?_⟩ <;> rfl)
        | (refine Or.inl ⟨?_, ?_⟩; · rfl
           intro w hSw; (try dsimp only at hSw); go_simp; (try with_reducible rfl); done)
    try simp only [Act.put, List.setIfInBounds_toArray, List.set_cons_zero, List.set_cons_succ]
    refine wpAnyH_take (i := 2) (oi := ?_) (v := ?_) ?_ (by kernel_rfl) (by kernel_rfl) (by kernel_rfl) ?_ ?_ (by assumption) ?_
    rotate_left 2
    · simp only [List.getElem?_toArray, List.getElem?_cons_succ, List.getElem?_cons_zero]; rfl
    · exact fun _ _ _ h => h
    · first
        | (refine Or.inr ⟨?_, ?_⟩ <;> rfl)
        | (refine Or.inl ⟨?_, ?_⟩; · rfl
           intro w hSw; (try dsimp only at hSw); go_simp; (try with_reducible rfl); done)
    try simp only [Act.put, List.setIfInBounds_toArray, List.set_cons_zero, List.set_cons_succ]
    refine wpAnyH_take (i := 3) (oi := ?_) (v := ?_) ?_ (by kernel_rfl) (by kernel_rfl) (by kernel_rfl) ?_ ?_ (by assumption) ?_
    rotate_left 2
    · simp only [List.getElem?_toArray, List.getElem?_cons_succ, List.getElem?_cons_zero]; rfl
    · exact fun _ _ _ h => h
    · first
        | (refine Or.inr ⟨?_, ?_⟩ <;> rfl)
        | (refine Or.inl ⟨?_, ?_⟩; · rfl
           intro w hSw; (try dsimp only at hSw); go_simp; (try with_reducible rfl); done)
    try simp only [Act.put, List.setIfInBounds_toArray, List.set_cons_zero, List.set_cons_succ]
    refine wpAnyH_take (i := 4) (oi := ?_) (v := ?_) ?_ (by kernel_rfl) (by kernel_rfl) (by kernel_rfl) ?_ ?_ (by assumption) ?_
    rotate_left 2
    · simp only [List.getElem?_toArray, List.getElem?_cons_succ, List.getElem?_cons_zero]; rfl
    · exact fun _ _ _ h => h
    · first
        | (refine Or.inr ⟨?_, ?_⟩ <;> rfl)
        | (refine Or.inl ⟨?_, ?_⟩; · rfl
           intro w hSw; (try dsimp only at hSw); go_simp; (try with_reducible rfl); done)
    try simp only [Act.put, List.setIfInBounds_toArray, List.set_cons_zero, List.set_cons_succ]
    refine wpAnyH_take (i := 5) (oi := ?_) (v := ?_) ?_ (by kernel_rfl) (by kernel_rfl) (by kernel_rfl) ?_ ?_ (by assumption) ?_
    rotate_left 2
    · simp only [List.getElem?_toArray, List.getElem?_cons_succ, List.getElem?_cons_zero]; rfl
    · exact fun _ _ _ h => h
    · first
        | (refine Or.inr ⟨?_, ?_⟩ <;> rfl)
        | (refine Or.inl ⟨?_, ?_⟩; · rfl
           intro w hSw; (try dsimp only at hSw); go_simp; (try with_reducible rfl); done)
    try simp only [Act.put, List.setIfInBounds_toArray, List.set_cons_zero, List.set_cons_succ]
    refine wpAnyH_take (i := 6) (oi := ?_) (v := ?_) ?_ (by kernel_rfl) (by kernel_rfl) (by kernel_rfl) ?_ ?_ (by assumption) ?_
    rotate_left 2
    · simp only [List.getElem?_toArray, List.getElem?_cons_succ, List.getElem?_cons_zero]; rfl
    · exact fun _ _ _ h => h
    · first
        | (refine Or.inr ⟨?_, ?_⟩ <;> rfl)
        | (refine Or.inl ⟨?_, ?_⟩; · rfl
           intro w hSw; (try dsimp only at hSw); go_simp; (try with_reducible rfl); done)
    try simp only [Act.put, List.setIfInBounds_toArray, List.set_cons_zero, List.set_cons_succ]
    refine wpAnyH_take (i := 7) (oi := ?_) (v := ?_) ?_ (by kernel_rfl) (by kernel_rfl) (by kernel_rfl) ?_ ?_ (by assumption) ?_
    rotate_left 2
    · simp only [List.getElem?_toArray, List.getElem?_cons_succ, List.getElem?_cons_zero]; rfl
    · exact fun _ _ _ h => h
    · first
        | (refine Or.inr ⟨?_, ?_⟩ <;> rfl)
        | (refine Or.inl ⟨?_, ?_⟩; · rfl
           intro w hSw; (try dsimp only at hSw); go_simp; (try with_reducible rfl); done)
    try simp only [Act.put, List.setIfInBounds_toArray, List.set_cons_zero, List.set_cons_succ]
    refine wpAnyH_take (i := 8) (oi := ?_) (v := ?_) ?_ (by kernel_rfl) (by kernel_rfl) (by kernel_rfl) ?_ ?_ (by assumption) ?_
    rotate_left 2
    · simp only [List.getElem?_toArray, List.getElem?_cons_succ, List.getElem?_cons_zero]; rfl
    · exact fun _ _ _ h => h
    · first
        | (refine Or.inr ⟨?_, ?_⟩ <;> rfl)
        | (refine Or.inl ⟨?_, ?_⟩; · rfl
           intro w hSw; (try dsimp only at hSw); go_simp; (try with_reducible rfl); done)
    try simp only [Act.put, List.setIfInBounds_toArray, List.set_cons_zero, List.set_cons_succ]
    refine wpAnyH_take (i := 9) (oi := ?_) (v := ?_) ?_ (by kernel_rfl) (by kernel_rfl) (by kernel_rfl) ?_ ?_ (by assumption) ?_
    rotate_left 2
    · simp only [List.getElem?_toArray, List.getElem?_cons_succ, List.getElem?_cons_zero]; rfl
    · exact fun _ _ _ h => h
    · first
        | (refine Or.inr ⟨?_, ?_⟩ <;> rfl)
        | (refine Or.inl ⟨?_, ?_⟩; · rfl
           intro w hSw; (try dsimp only at hSw); go_simp; (try with_reducible rfl); done)
    try simp only [Act.put, List.setIfInBounds_toArray, List.set_cons_zero, List.set_cons_succ]
    refine wpAnyH_take (i := 10) (oi := ?_) (v := ?_) ?_ (by kernel_rfl) (by kernel_rfl) (by kernel_rfl) ?_ ?_ (by assumption) ?_
    rotate_left 2
    · simp only [List.getElem?_toArray, List.getElem?_cons_succ, List.getElem?_cons_zero]; rfl
    · exact fun _ _ _ h => h
    · first
        | (refine Or.inr ⟨?_, ?_⟩ <;> rfl)
        | (refine Or.inl ⟨?_, ?_⟩; · rfl
           intro w hSw; (try dsimp only at hSw); go_simp; (try with_reducible rfl); done)
    try simp only [Act.put, List.setIfInBounds_toArray, List.set_cons_zero, List.set_cons_succ]
    refine wpAnyH_take (i := 11) (oi := ?_) (v := ?_) ?_ (by kernel_rfl) (by kernel_rfl) (by kernel_rfl) ?_ ?_ (by assumption) ?_
    rotate_left 2
    · simp only [List.getElem?_toArray, List.getElem?_cons_succ, List.getElem?_cons_zero]; rfl
    · exact fun _ _ _ h => h
    · first
        | (refine Or.inr ⟨?_, ?_⟩ <;> rfl)
        | (refine Or.inl ⟨?_, ?_⟩; · rfl
           intro w hSw; (try dsimp only at hSw); go_simp; (try with_reducible rfl); done)
    try simp only [Act.put, List.setIfInBounds_toArray, List.set_cons_zero, List.set_cons_succ]
    refine wpAnyH_take (i := 12) (oi := ?_) (v := ?_) ?_ (by kernel_rfl) (by kernel_rfl) (by kernel_rfl) ?_ ?_ (by assumption) ?_
    rotate_left 2
    · simp only [List.getElem?_toArray, List.getElem?_cons_succ, List.getElem?_cons_zero]; rfl
    · exact fun _ _ _ h => h
    · first
        | (refine Or.inr ⟨?_, ?_⟩ <;> rfl)
        | (refine Or.inl ⟨?_, ?_⟩; · rfl
           intro w hSw; (try dsimp only at hSw); go_simp; (try with_reducible rfl); done)
    try simp only [Act.put, List.setIfInBounds_toArray, List.set_cons_zero, List.set_cons_succ]
    refine wpAnyH_take (i := 13) (oi := ?_) (v := ?_) ?_ (by kernel_rfl) (by kernel_rfl) (by kernel_rfl) ?_ ?_ (by assumption) ?_
    rotate_left 2
    · simp only [List.getElem?_toArray, List.getElem?_cons_succ, List.getElem?_cons_zero]; rfl
    · exact fun _ _ _ h => h
    · first
        | (refine Or.inr ⟨?_, ?_⟩ <;> rfl)
        | (refine Or.inl ⟨?_, ?_⟩; · rfl
           intro w hSw; (try dsimp only at hSw); go_simp; (try with_reducible rfl); done)
    try simp only [Act.put, List.setIfInBounds_toArray, List.set_cons_zero, List.set_cons_succ]
    refine wpAnyH_take (i := 14) (oi := ?_) (v := ?_) ?_ (by kernel_rfl) (by kernel_rfl) (by kernel_rfl) ?_ ?_ (by assumption) ?_
    rotate_left 2
    · simp only [List.getElem?_toArray, List.getElem?_cons_succ, List.getElem?_cons_zero]; rfl
    · exact fun _ _ _ h => h
    · first
        | (refine Or.inr ⟨?_, ?_⟩ <;> rfl)
        | (refine Or.inl ⟨?_, ?_⟩; · rfl
           intro w hSw; (try dsimp only at hSw); go_simp; (try with_reducible rfl); done)
    try simp only [Act.put, List.setIfInBounds_toArray, List.set_cons_zero, List.set_cons_succ]
    refine wpAnyH_take (i := 15) (oi := ?_) (v := ?_) ?_ (by kernel_rfl) (by kernel_rfl) (by kernel_rfl) ?_ ?_ (by assumption) ?_
    rotate_left 2
    · simp only [List.getElem?_toArray, List.getElem?_cons_succ, List.getElem?_cons_zero]; rfl
    · exact fun _ _ _ h => h
    · first
        | (refine Or.inr ⟨?_, ?_⟩ <;> rfl)
        | (refine Or.inl ⟨?_, ?_⟩; · rfl
           intro w hSw; (try dsimp only at hSw); go_simp; (try with_reducible rfl); done)
    try simp only [Act.put, List.setIfInBounds_toArray, List.set_cons_zero, List.set_cons_succ]
    refine wpAnyH_take (i := 16) (oi := ?_) (v := ?_) ?_ (by kernel_rfl) (by kernel_rfl) (by kernel_rfl) ?_ ?_ (by assumption) ?_
    rotate_left 2
    · simp only [List.getElem?_toArray, List.getElem?_cons_succ, List.getElem?_cons_zero]; rfl
    · exact fun _ _ _ h => h
    · first
        | (refine Or.inr ⟨?_, ?_⟩ <;> rfl)
        | (refine Or.inl ⟨?_, ?_⟩; · rfl
           intro w hSw; (try dsimp only at hSw); go_simp; (try with_reducible rfl); done)
    try simp only [Act.put, List.setIfInBounds_toArray, List.set_cons_zero, List.set_cons_succ]
    refine wpAnyH_take (i := 17) (oi := ?_) (v := ?_) ?_ (by kernel_rfl) (by kernel_rfl) (by kernel_rfl) ?_ ?_ (by assumption) ?_
    rotate_left 2
    · simp only [List.getElem?_toArray, List.getElem?_cons_succ, List.getElem?_cons_zero]; rfl
    · exact fun _ _ _ h => h
    · first
        | (refine Or.inr ⟨?_, ?_⟩ <;> rfl)
        | (refine Or.inl ⟨?_, ?_⟩; · rfl
           intro w hSw; (try dsimp only at hSw); go_simp; (try with_reducible rfl); done)
    try simp only [Act.put, List.setIfInBounds_toArray, List.set_cons_zero, List.set_cons_succ]
    refine wpAnyH_take (i := 18) (oi := ?_) (v := ?_) ?_ (by kernel_rfl) (by kernel_rfl) (by kernel_rfl) ?_ ?_ (by assumption) ?_
    rotate_left 2
    · simp only [List.getElem?_toArray, List.getElem?_cons_succ, List.getElem?_cons_zero]; rfl
    · exact fun _ _ _ h => h
    · first
        | (refine Or.inr ⟨?_, ?_⟩ <;> rfl)
        | (refine Or.inl ⟨?_, ?_⟩; · rfl
           intro w hSw; (try dsimp only at hSw); go_simp; (try with_reducible rfl); done)
    try simp only [Act.put, List.setIfInBounds_toArray, List.set_cons_zero, List.set_cons_succ]
    refine wpAnyH_take (i := 19) (oi := ?_) (v := ?_) ?_ (by kernel_rfl) (by kernel_rfl) (by kernel_rfl) ?_ ?_ (by assumption) ?_
    rotate_left 2
    · simp only [List.getElem?_toArray, List.getElem?_cons_succ, List.getElem?_cons_zero]; rfl
    · exact fun _ _ _ h => h
    · first
        | (refine Or.inr ⟨?_, ?_⟩ <;> rfl)
        | (refine Or.inl ⟨?_, ?_⟩; · rfl
           intro w hSw; (try dsimp only at hSw); go_simp; (try with_reducible rfl); done)
    try simp only [Act.put, List.setIfInBounds_toArray, List.set_cons_zero, List.set_cons_succ]
    refine wpAnyH_done (by kernel_rfl) ?_ _
    clear hHeld
    go_wp2_with fail
    have HB4 : Hid (Below w3.heap.size w3 w3.drew.drew) := (Below.refl _ _).drew.drew
    have HT4 := Lib.hid (HT3.out.below HB4.out HT3.out.lt)
    have HX4 := Lib.hid (HX3.out.below HB4.out HX3.out.lt)
    refine wp_region_held_drew (S := fun W => (W.cell? ⟨w1.heap.size, k * 3 + 1, none⟩ = some (.int .i64 nk) ∧ W.cell? ⟨w1.heap.size, k * 3 + 2, none⟩ = some (.func (.func f) #[] #[])) ∧ W.cell? ⟨w.heap.size, 0, none⟩ = some (.slice (some ⟨bw, ow, none⟩) n c)) (by kernel_rfl) (HCL.out _ HT4.out HX4.out) (fun hHeld => ?_)
    refine wpAnyH_take (i := 0) (oi := ?_) (v := ?_) ?_ (by kernel_rfl) (by kernel_rfl) (by kernel_rfl) ?_ ?_ (by assumption) ?_
    rotate_left 2
    · simp only [List.getElem?_toArray, List.getElem?_cons_succ, List.getElem?_cons_zero]; rfl
    · exact fun _ _ _ h => h
    · first
        | (refine Or.inr ⟨?_, ?_⟩ <;> rfl)
        | (refine Or.inl ⟨?_, ?_⟩; · rfl
           intro w hSw; (try dsimp only at hSw); go_simp; (try with_reducible rfl); done)
    try simp only [Act.put, List.setIfInBounds_toArray, List.set_cons_zero, List.set_cons_succ]
    refine wpAnyH_take (i := 1) (oi := ?_) (v := ?_) ?_ (by kernel_rfl) (by kernel_rfl) (by kernel_rfl) ?_ ?_ (by assumption) ?_
    rotate_left 2
    · simp only [List.getElem?_toArray, List.getElem?_cons_succ, List.getElem?_cons_zero]; rfl
    · exact fun _ _ _ h => h
    · first
        | (refine Or.inr ⟨?_, ?_⟩ <;> rfl)
        | (refine Or.inl ⟨?_, ?_⟩; · rfl
           intro w hSw; (try dsimp only at hSw); go_simp; (try with_reducible rfl); done)
    try simp only [Act.put, List.setIfInBounds_toArray, List.set_cons_zero, List.set_cons_succ]
    refine wpAnyH_take (i := 2) (oi := ?_) (v := ?_) ?_ (by kernel_rfl) (by kernel_rfl) (by kernel_rfl) ?_ ?_ (by assumption) ?_
    rotate_left 2
    · simp only [List.getElem?_toArray, List.getElem?_cons_succ, List.getElem?_cons_zero]; rfl
    · exact fun _ _ _ h => h
    · first
        | (refine Or.inr ⟨?_, ?_⟩ <;> rfl)
        | (refine Or.inl ⟨?_, ?_⟩; · rfl
           intro w hSw; (try dsimp only at hSw); go_simp; (try with_reducible rfl); done)
    try simp only [Act.put, List.setIfInBounds_toArray, List.set_cons_zero, List.set_cons_succ]
    refine wpAnyH_take (i := 3) (oi := ?_) (v := ?_) ?_ (by kernel_rfl) (by kernel_rfl) (by kernel_rfl) ?_ ?_ (by assumption) ?_
    rotate_left 2
    · simp only [List.getElem?_toArray, List.getElem?_cons_succ, List.getElem?_cons_zero]; rfl
    · exact fun _ _ _ h => h
    · first
        | (refine Or.inr ⟨?_, ?_⟩ <;> rfl)
        | (refine Or.inl ⟨?_, ?_⟩; · rfl
           intro w hSw; (try dsimp only at hSw); go_simp; (try with_reducible rfl); done)
    try simp only [Act.put, List.setIfInBounds_toArray, List.set_cons_zero, List.set_cons_succ]
    refine wpAnyH_take (i := 4) (oi := ?_) (v := ?_) ?_ (by kernel_rfl) (by kernel_rfl) (by kernel_rfl) ?_ ?_ (by assumption) ?_
    rotate_left 2
    · simp only [List.getElem?_toArray, List.getElem?_cons_succ, List.getElem?_cons_zero]; rfl
    · exact fun _ _ _ h => h
    · first
        | (refine Or.inr ⟨?_, ?_⟩ <;> rfl)
        | (refine Or.inl ⟨?_, ?_⟩; · rfl
           intro w hSw; (try dsimp only at hSw); go_simp; (try with_reducible rfl); done)
    try simp only [Act.put, List.setIfInBounds_toArray, List.set_cons_zero, List.set_cons_succ]
    refine wpAnyH_take (i := 5) (oi := ?_) (v := ?_) ?_ (by kernel_rfl) (by kernel_rfl) (by kernel_rfl) ?_ ?_ (by assumption) ?_
    rotate_left 2
    · simp only [List.getElem?_toArray, List.getElem?_cons_succ, List.getElem?_cons_zero]; rfl
    · exact fun _ _ _ h => h
    · first
        | (refine Or.inr ⟨?_, ?_⟩ <;> rfl)
        | (refine Or.inl ⟨?_, ?_⟩; · rfl
           intro w hSw; (try dsimp only at hSw); go_simp; (try with_reducible rfl); done)
    try simp only [Act.put, List.setIfInBounds_toArray, List.set_cons_zero, List.set_cons_succ]
    refine wpAnyH_take (i := 6) (oi := ?_) (v := ?_) ?_ (by kernel_rfl) (by kernel_rfl) (by kernel_rfl) ?_ ?_ (by assumption) ?_
    rotate_left 2
    · simp only [List.getElem?_toArray, List.getElem?_cons_succ, List.getElem?_cons_zero]; rfl
    · exact fun _ _ _ h => h
    · first
        | (refine Or.inr ⟨?_, ?_⟩ <;> rfl)
        | (refine Or.inl ⟨?_, ?_⟩; · rfl
           intro w hSw; (try dsimp only at hSw); go_simp; (try with_reducible rfl); done)
    try simp only [Act.put, List.setIfInBounds_toArray, List.set_cons_zero, List.set_cons_succ]
    refine wpAnyH_ready (rs := [7]) (by kernel_rfl) (by simp) ?_
    refine AllReadyH.cons (o := ?_) ?_ (fun K hK => ?_) AllReadyH.nil
    rotate_left 1
    · simp only [List.getElem?_toArray, List.getElem?_cons_succ, List.getElem?_cons_zero]; rfl
    go_simp
    go_must (refine Calls.mono (HCC.out _ HB3.out.drew.drew) ?_)
    rintro e w5 ⟨t, rfl, hkp, hR⟩
    have HT5 := Lib.hid (HT4.out.kp hkp hz1)
    have HX5 := Lib.hid (HX4.out.kp hkp (Nat.le_refl _))
    have HR := Lib.hid hR
    clear hkp hR
    refine hK.out _ _ ?_ (fun hHeld => ?_)
    · try dsimp only
      exact HCL.out _ HT5.out HX5.out
    clear hK K
    try simp only [Act.put, List.setIfInBounds_toArray, List.set_cons_zero, List.set_cons_succ]
    refine wpAnyH_take (i := 8) (oi := ?_) (v := ?_) ?_ (by kernel_rfl) (by kernel_rfl) (by kernel_rfl) ?_ ?_ (by assumption) ?_
    rotate_left 2
    · simp only [List.getElem?_toArray, List.getElem?_cons_succ, List.getElem?_cons_zero]; rfl
    · exact fun _ _ _ h => h
    · first
        | (refine Or.inr ⟨?_, ?_⟩ <;> rfl)
        | (refine Or.inl ⟨?_, ?_⟩; · rfl
           intro w hSw; (try dsimp only at hSw); go_simp; (try with_reducible rfl); done)
    try simp only [Act.put, List.setIfInBounds_toArray, List.set_cons_zero, List.set_cons_succ]
    refine wpAnyH_done (by kernel_rfl) ?_ _
    go_wp2_with fail
    go_ret
    exact ⟨t, rfl, HR.out⟩
  · have hg1 : decide (0 ≤ nk) = true := decide_eq_true (by omega)
    have hg2 : (nk != (n : Int)) = false := by rw [heq]; simp
    have hg3 : (nk == (n : Int)) = true := beq_iff_eq.2 heq
    clear heq
    go_wp2_with fail
    refine wp_region_held_drew (S := fun W => (W.cell? ⟨w1.heap.size, k * 3 + 1, none⟩ = some (.int .i64 nk) ∧ W.cell? ⟨w1.heap.size, k * 3 + 2, none⟩ = some (.func (.func f) #[] #[])) ∧ W.cell? ⟨w.heap.size, 0, none⟩ = some (.slice (some ⟨bw, ow, none⟩) n c)) (by kernel_rfl) (HCL.out _ (HT3.out.below HBd.out HT3.out.lt) (HX3.out.below HBd.out HX3.out.lt)) (fun hHeld => ?_)
    refine wpAnyH_take (i := 0) (oi := ?_) (v := ?_) ?_ (by kernel_rfl) (by kernel_rfl) (by kernel_rfl) ?_ ?_ (by assumption) ?_
    rotate_left 2
    · simp only [List.getElem?_toArray, List.getElem?_cons_succ, List.getElem?_cons_zero]; rfl
    · exact fun _ _ _ h => h
    · first
        | (refine Or.inr ⟨?_, ?_⟩ <;> rfl)
        | (refine Or.inl ⟨?_, ?_⟩; · rfl
           intro w hSw; (try dsimp only at hSw); go_simp; (try with_reducible rfl); done)
    try simp only [Act.put, List.setIfInBounds_toArray, List.set_cons_zero, List.set_cons_succ]
    refine wpAnyH_take (i := 1) (oi := ?_) (v := ?_) ?_ (by kernel_rfl) (by kernel_rfl) (by kernel_rfl) ?_ ?_ (by assumption) ?_
    rotate_left 2
    · simp only [List.getElem?_toArray, List.getElem?_cons_succ, List.getElem?_cons_zero]; rfl
    · exact fun _ _ _ h => h
    · first
        | (refine Or.inr ⟨?_, ?_⟩ <;> rfl)
        | (refine Or.inl ⟨?_, ?_⟩; · rfl
           intro w hSw; (try dsimp only at hSw); go_simp; (try with_reducible rfl); done)
    try simp only [Act.put, List.setIfInBounds_toArray, List.set_cons_zero, List.set_cons_succ]
    refine wpAnyH_take (i := 2) (oi := ?_) (v := ?_) ?_ (by kernel_rfl) (by kernel_rfl) (by kernel_rfl) ?_ ?_ (by assumption) ?_
    rotate_left 2
    · simp only [List.getElem?_toArray, List.getElem?_cons_succ, List.getElem?_cons_zero]; rfl
    · exact fun _ _ _ h => h
    · first
        | (refine Or.inr ⟨?_, ?_⟩ <;> rfl)
        | (refine Or.inl ⟨?_, ?_⟩; · rfl
           intro w hSw; (try dsimp only at hSw); go_simp; (try with_reducible rfl); done)
    try simp only [Act.put, List.setIfInBounds_toArray, List.set_cons_zero, List.set_cons_succ]
    refine wpAnyH_take (i := 3) (oi := ?_) (v := ?_) ?_ (by kernel_rfl) (by kernel_rfl) (by kernel_rfl) ?_ ?_ (by assumption) ?_
    rotate_left 2
    · simp only [List.getElem?_toArray, List.getElem?_cons_succ, List.getElem?_cons_zero]; rfl
    · exact fun _ _ _ h => h
    · first
        | (refine Or.inr ⟨?_, ?_⟩ <;> rfl)
        | (refine Or.inl ⟨?_, ?_⟩; · rfl
           intro w hSw; (try dsimp only at hSw); go_simp; (try with_reducible rfl); done)
    try simp only [Act.put, List.setIfInBounds_toArray, List.set_cons_zero, List.set_cons_succ]
    refine wpAnyH_take (i := 4) (oi := ?_) (v := ?_) ?_ (by kernel_rfl) (by kernel_rfl) (by kernel_rfl) ?_ ?_ (by assumption) ?_
    rotate_left 2
    · simp only [List.getElem?_toArray, List.getElem?_cons_succ, List.getElem?_cons_zero]; rfl
    · exact fun _ _ _ h => h
    · first
        | (refine Or.inr ⟨?_, ?_⟩ <;> rfl)
        | (refine Or.inl ⟨?_, ?_⟩; · rfl
           intro w hSw; (try dsimp only at hSw); go_simp; (try with_reducible rfl); done)
    try simp only [Act.put, List.setIfInBounds_toArray, List.set_cons_zero, List.set_cons_succ]
    refine wpAnyH_take (i := 5) (oi := ?_) (v := ?_) ?_ (by kernel_rfl) (by kernel_rfl) (by kernel_rfl) ?_ ?_ (by assumption) ?_
    rotate_left 2
    · simp only [List.getElem?_toArray, List.getElem?_cons_succ, List.getElem?_cons_zero]; rfl
    · exact fun _ _ _ h => h
    · first
        | (refine Or.inr ⟨?_, ?_⟩ <;> rfl)
        | (refine Or.inl ⟨?_, ?_⟩; · rfl
           intro w hSw; (try dsimp only at hSw); go_simp; (try with_reducible rfl); done)
    try simp only [Act.put, List.setIfInBounds_toArray, List.set_cons_zero, List.set_cons_succ]
    refine wpAnyH_take (i := 6) (oi := ?_) (v := ?_) ?_ (by kernel_rfl) (by kernel_rfl) (by kernel_rfl) ?_ ?_ (by assumption) ?_
    rotate_left 2
    · simp only [List.getElem?_toArray, List.getElem?_cons_succ, List.getElem?_cons_zero]; rfl
    · exact fun _ _ _ h => h
    · first
        | (refine Or.inr ⟨?_, ?_⟩ <;> rfl)
        | (refine Or.inl ⟨?_, ?_⟩; · rfl
           intro w hSw; (try dsimp only at hSw); go_simp; (try with_reducible rfl); done)
    try simp only [Act.put, List.setIfInBounds_toArray, List.set_cons_zero, List.set_cons_succ]
    refine wpAnyH_take (i := 7) (oi := ?_) (v := ?_) ?_ (by kernel_rfl) (by kernel_rfl) (by kernel_rfl) ?_ ?_ (by assumption) ?_
    rotate_left 2
    · simp only [List.getElem?_toArray, List.getElem?_cons_succ, List.getElem?_cons_zero]; rfl
    · exact fun _ _ _ h => h
    · first
        | (refine Or.inr ⟨?_, ?_⟩ <;> rfl)
        | (refine Or.inl ⟨?_, ?_⟩; · rfl
           intro w hSw; (try dsimp only at hSw); go_simp; (try with_reducible rfl); done)
    try simp only [Act.put, List.setIfInBounds_toArray, List.set_cons_zero, List.set_cons_succ]
    refine wpAnyH_take (i := 8) (oi := ?_) (v := ?_) ?_ (by kernel_rfl) (by kernel_rfl) (by kernel_rfl) ?_ ?_ (by assumption) ?_
    rotate_left 2
    · simp only [List.getElem?_toArray, List.getElem?_cons_succ, List.getElem?_cons_zero]; rfl
    · exact fun _ _ _ h => h
    · first
        | (refine Or.inr ⟨?_, ?_⟩ <;> rfl)
        | (refine Or.inl ⟨?_, ?_⟩; · rfl
           intro w hSw; (try dsimp only at hSw); go_simp; (try with_reducible rfl); done)
    try simp only [Act.put, List.setIfInBounds_toArray, List.set_cons_zero, List.set_cons_succ]
    refine wpAnyH_take (i := 9) (oi := ?_) (v := ?_) ?_ (by kernel_rfl) (by kernel_rfl) (by kernel_rfl) ?_ ?_ (by assumption) ?_
    rotate_left 2
    · simp only [List.getElem?_toArray, List.getElem?_cons_succ, List.getElem?_cons_zero]; rfl
    · exact fun _ _ _ h => h
    · first
        | (refine Or.inr ⟨?_, ?_⟩ <;> rfl)
        | (refine Or.inl ⟨?_, ?_⟩; · rfl
           intro w hSw; (try dsimp only at hSw); go_simp; (try with_reducible rfl); done)
    try simp only [Act.put, List.setIfInBounds_toArray, List.set_cons_zero, List.set_cons_succ]
    refine wpAnyH_take (i := 10) (oi := ?_) (v := ?_) ?_ (by kernel_rfl) (by kernel_rfl) (by kernel_rfl) ?_ ?_ (by assumption) ?_
    rotate_left 2
    · simp only [List.getElem?_toArray, List.getElem?_cons_succ, List.getElem?_cons_zero]; rfl
    · exact fun _ _ _ h => h
    · first
        | (refine Or.inr ⟨?_, ?_⟩ <;> rfl)
        | (refine Or.inl ⟨?_, ?_⟩; · rfl
           intro w hSw; (try dsimp only at hSw); go_simp; (try with_reducible rfl); done)
    try simp only [Act.put, List.setIfInBounds_toArray, List.set_cons_zero, List.set_cons_succ]
    refine wpAnyH_take (i := 11) (oi := ?_) (v := ?_) ?_ (by kernel_rfl) (by kernel_rfl) (by kernel_rfl) ?_ ?_ (by assumption) ?_
    rotate_left 2
    · simp only [List.getElem?_toArray, List.getElem?_cons_succ, List.getElem?_cons_zero]; rfl
    · exact fun _ _ _ h => h
    · first
        | (refine Or.inr ⟨?_, ?_⟩ <;> rfl)
        | (refine Or.inl ⟨?_, ?_⟩; · rfl
           intro w hSw; (try dsimp only at hSw); go_simp; (try with_reducible rfl); done)
    try simp only [Act.put, List.setIfInBounds_toArray, List.set_cons_zero, List.set_cons_succ]
    refine wpAnyH_take (i := 12) (oi := ?_) (v := ?_) ?_ (by kernel_rfl) (by kernel_rfl) (by kernel_rfl) ?_ ?_ (by assumption) ?_
    rotate_left 2
    · simp only [List.getElem?_toArray, List.getElem?_cons_succ, List.getElem?_cons_zero]; rfl
    · exact fun _ _ _ h => h
    · first
        | (refine Or.inr ⟨?_, ?_⟩ <;> rfl)
        | (refine Or.inl ⟨?_, ?_⟩; · rfl
           intro w hSw; (try dsimp only at hSw); go_simp; (try with_reducible rfl); done)
    try simp only [Act.put, List.setIfInBounds_toArray, List.set_cons_zero, List.set_cons_succ]
    refine wpAnyH_take (i := 13) (oi := ?_) (v := ?_) ?_ (by kernel_rfl) (by kernel_rfl) (by kernel_rfl) ?_ ?_ (by assumption) ?_
    rotate_left 2
    · simp only [List.getElem?_toArray, List.getElem?_cons_succ, List.getElem?_cons_zero]; rfl
    · exact fun _ _ _ h => h
    · first
        | (refine Or.inr ⟨?_, ?_⟩ <;> rfl)
        | (refine Or.inl ⟨?_, ?_⟩; · rfl
           intro w hSw; (try dsimp only at hSw); go_simp; (try with_reducible rfl); done)
    try simp only [Act.put, List.setIfInBounds_toArray, List.set_cons_zero, List.set_cons_succ]
    refine wpAnyH_take (i := 14) (oi := ?_) (v := ?_) ?_ (by kernel_rfl) (by kernel_rfl) (by kernel_rfl) ?_ ?_ (by assumption) ?_
    rotate_left 2
    · simp only [List.getElem?_toArray, List.getElem?_cons_succ, List.getElem?_cons_zero]; rfl
    · exact fun _ _ _ h => h
    · first
        | (refine Or.inr ⟨?_, ?_⟩ <;> rfl)
        | (refine Or.inl ⟨?_, ?_⟩; · rfl
           intro w hSw; (try dsimp only at hSw); go_simp; (try with_reducible rfl); done)
    try simp only [Act.put, List.setIfInBounds_toArray, List.set_cons_zero, List.set_cons_succ]
    refine wpAnyH_take (i := 15) (oi := ?_) (v := ?_) ?_ (by kernel_rfl) (by kernel_rfl) (by kernel_rfl) ?_ ?_ (by assumption) ?_
    rotate_left 2
    · simp only [List.getElem?_toArray, List.getElem?_cons_succ, List.getElem?_cons_zero]; rfl
    · exact fun _ _ _ h => h
    · first
        | (refine Or.inr ⟨?_, ?_⟩ <;> rfl)
        | (refine Or.inl ⟨?_, ?_⟩; · rfl
           intro w hSw; (try dsimp only at hSw); go_simp; (try with_reducible rfl); done)
    try simp only [Act.put, List.setIfInBounds_toArray, List.set_cons_zero, List.set_cons_succ]
    refine wpAnyH_take (i := 16) (oi := ?_) (v := ?_) ?_ (by kernel_rfl) (by kernel_rfl) (by kernel_rfl) ?_ ?_ (by assumption) ?_
    rotate_left 2
    · simp only [List.getElem?_toArray, List.getElem?_cons_succ, List.getElem?_cons_zero]; rfl
    · exact fun _ _ _ h => h
    · first
        | (refine Or.inr ⟨?_, ?_⟩ <;> rfl)
        | (refine Or.inl ⟨?_, ?_⟩; · rfl
           intro w hSw; (try dsimp only at hSw); go_simp; (try with_reducible rfl); done)
    try simp only [Act.put, List.setIfInBounds_toArray, List.set_cons_zero, List.set_cons_succ]
    refine wpAnyH_take (i := 17) (oi := ?_) (v := ?_) ?_ (by kernel_rfl) (by kernel_rfl) (by kernel_rfl) ?_ ?_ (by assumption) ?_
    rotate_left 2
    · simp only [List.getElem?_toArray, List.getElem?_cons_succ, List.getElem?_cons_zero]; rfl
    · exact fun _ _ _ h => h
    · first
        | (refine Or.inr ⟨?_, ?_⟩ <;> rfl)
        | (refine Or.inl ⟨?_, ?_⟩; · rfl
           intro w hSw; (try dsimp only at hSw); go_simp; (try with_reducible rfl); done)
    try simp only [Act.put, List.setIfInBounds_toArray, List.set_cons_zero, List.set_cons_succ]
    refine wpAnyH_take (i := 18) (oi := ?_) (v := ?_) ?_ (by kernel_rfl) (by kernel_rfl) (by kernel_rfl) ?_ ?_ (by assumption) ?_
    rotate_left 2
    · simp only [List.getElem?_toArray, List.getElem?_cons_succ, List.getElem?_cons_zero]; rfl
    · exact fun _ _ _ h => h
    · first
        | (refine Or.inr ⟨?_, ?_⟩ <;> rfl)
        | (refine Or.inl ⟨?_, ?_⟩; · rfl
           intro w hSw; (try dsimp only at hSw); go_simp; (try with_reducible rfl); done)
    try simp only [Act.put, List.setIfInBounds_toArray, List.set_cons_zero, List.set_cons_succ]
    refine wpAnyH_take (i := 19) (oi := ?_) (v := ?_) ?_ (by kernel_rfl) (by kernel_rfl) (by kernel_rfl) ?_ ?_ (by assumption) ?_
    rotate_left 2
    · simp only [List.getElem?_toArray, List.getElem?_cons_succ, List.getElem?_cons_zero]; rfl
    · exact fun _ _ _ h => h
    · first
        | (refine Or.inr ⟨?_, ?_⟩ <;> rfl)
        | (refine Or.inl ⟨?_, ?_⟩; · rfl
           intro w hSw; (try dsimp only at hSw); go_simp; (try with_reducible rfl); done)
    try simp only [Act.put, List.setIfInBounds_toArray, List.set_cons_zero, List.set_cons_succ]
    refine wpAnyH_done (by kernel_rfl) ?_ _
    clear hHeld
    go_wp2_with fail
    have HB4 : Hid (Below w3.heap.size w3 w3.drew.drew) := (Below.refl _ _).drew.drew
    have HT4 := Lib.hid (HT3.out.below HB4.out HT3.out.lt)
    have HX4 := Lib.hid (HX3.out.below HB4.out HX3.out.lt)
    refine wp_region_held_drew (S := fun W => (W.cell? ⟨w1.heap.size, k * 3 + 1, none⟩ = some (.int .i64 nk) ∧ W.cell? ⟨w1.heap.size, k * 3 + 2, none⟩ = some (.func (.func f) #[] #[])) ∧ W.cell? ⟨w.heap.size, 0, none⟩ = some (.slice (some ⟨bw, ow, none⟩) n c)) (by kernel_rfl) (HCL.out _ HT4.out HX4.out) (fun hHeld => ?_)
    refine wpAnyH_take (i := 0) (oi := ?_) (v := ?_) ?_ (by kernel_rfl) (by kernel_rfl) (by kernel_rfl) ?_ ?_ (by assumption) ?_
    rotate_left 2
    · simp only [List.getElem?_toArray, List.getElem?_cons_succ, List.getElem?_cons_zero]; rfl
    · exact fun _ _ _ h => h
    · first
        | (refine Or.inr ⟨?_, ?_⟩ <;> rfl)
        | (refine Or.inl ⟨?_, ?_⟩; · rfl
           intro w hSw; (try dsimp only at hSw); go_simp; (try with_reducible rfl); done)
    try simp only [Act.put, List.setIfInBounds_toArray, List.set_cons_zero, List.set_cons_succ]
    refine wpAnyH_take (i := 1) (oi := ?_) (v := ?_) ?_ (by kernel_rfl) (by kernel_rfl) (by kernel_rfl) ?_ ?_ (by assumption) ?_
    rotate_left 2
    · simp only [List.getElem?_toArray, List.getElem?_cons_succ, List.getElem?_cons_zero]; rfl
    · exact fun _ _ _ h => h
    · first
        | (refine Or.inr ⟨?_, ?_⟩ <;> rfl)
        | (refine Or.inl ⟨?_, ?_⟩; · rfl
           intro w hSw; (try dsimp only at hSw); go_simp; (try with_reducible rfl); done)
    try simp only [Act.put, List.setIfInBounds_toArray, List.set_cons_zero, List.set_cons_succ]
    refine wpAnyH_take (i := 2) (oi := ?_) (v := ?_) ?_ (by kernel_rfl) (by kernel_rfl) (by kernel_rfl) ?_ ?_ (by assumption) ?_
    rotate_left 2
    · simp only [List.getElem?_toArray, List.getElem?_cons_succ, List.getElem?_cons_zero]; rfl
    · exact fun _ _ _ h => h
    · first
        | (refine Or.inr ⟨?_, ?_⟩ <;> rfl)
        | (refine Or.inl ⟨?_, ?_⟩; · rfl
           intro w hSw; (try dsimp only at hSw); go_simp; (try with_reducible rfl); done)
    try simp only [Act.put, List.setIfInBounds_toArray, List.set_cons_zero, List.set_cons_succ]
    refine wpAnyH_take (i := 3) (oi := ?_) (v := ?_) ?_ (by kernel_rfl) (by kernel_rfl) (by kernel_rfl) ?_ ?_ (by assumption) ?_
    rotate_left 2
    · simp only [List.getElem?_toArray, List.getElem?_cons_succ, List.getElem?_cons_zero]; rfl
    · exact fun _ _ _ h => h
    · first
        | (refine Or.inr ⟨?_, ?_⟩ <;> rfl)
        | (refine Or.inl ⟨?_, ?_⟩; · rfl
           intro w hSw; (try dsimp only at hSw); go_simp; (try with_reducible rfl); done)
    try simp only [Act.put, List.setIfInBounds_toArray, List.set_cons_zero, List.set_cons_succ]
    refine wpAnyH_take (i := 4) (oi := ?_) (v := ?_) ?_ (by kernel_rfl) (by kernel_rfl) (by kernel_rfl) ?_ ?_ (by assumption) ?_
    rotate_left 2
    · simp only [List.getElem?_toArray, List.getElem?_cons_succ, List.getElem?_cons_zero]; rfl
    · exact fun _ _ _ h => h
    · first
        | (refine Or.inr ⟨?_, ?_⟩ <;> rfl)
        | (refine Or.inl ⟨?_, ?_⟩; · rfl
           intro w hSw; (try dsimp only at hSw); go_simp; (try with_reducible rfl); done)
    try simp only [Act.put, List.setIfInBounds_toArray, List.set_cons_zero, List.set_cons_succ]
    refine wpAnyH_take (i := 5) (oi := ?_) (v := ?_) ?_ (by kernel_rfl) (by kernel_rfl) (by kernel_rfl) ?_ ?_ (by assumption) ?_
    rotate_left 2
    · simp only [List.getElem?_toArray, List.getElem?_cons_succ, List.getElem?_cons_zero]; rfl
    · exact fun _ _ _ h => h
    · first
        | (refine Or.inr ⟨?_, ?_⟩ <;> rfl)
        | (refine Or.inl ⟨?_, ?_⟩; · rfl
           intro w hSw; (try dsimp only at hSw); go_simp; (try with_reducible rfl); done)
    try simp only [Act.put, List.setIfInBounds_toArray, List.set_cons_zero, List.set_cons_succ]
    refine wpAnyH_take (i := 6) (oi := ?_) (v := ?_) ?_ (by kernel_rfl) (by kernel_rfl) (by kernel_rfl) ?_ ?_ (by assumption) ?_
    rotate_left 2
    · simp only [List.getElem?_toArray, List.getElem?_cons_succ, List.getElem?_cons_zero]; rfl
    · exact fun _ _ _ h => h
    · first
        | (refine Or.inr ⟨?_, ?_⟩ <;> rfl)
        | (refine Or.inl ⟨?_, ?_⟩; · rfl
           intro w hSw; (try dsimp only at hSw); go_simp; (try with_reducible rfl); done)
    try simp only [Act.put, List.setIfInBounds_toArray, List.set_cons_zero, List.set_cons_succ]
    refine wpAnyH_ready (rs := [7]) (by kernel_rfl) (by simp) ?_
    refine AllReadyH.cons (o := ?_) ?_ (fun K hK => ?_) AllReadyH.nil
    rotate_left 1
    · simp only [List.getElem?_toArray, List.getElem?_cons_succ, List.getElem?_cons_zero]; rfl
    go_simp
    go_must (refine Calls.mono (HCC.out _ HB3.out.drew.drew) ?_)
    rintro e w5 ⟨t, rfl, hkp, hR⟩
    have HT5 := Lib.hid (HT4.out.kp hkp hz1)
    have HX5 := Lib.hid (HX4.out.kp hkp (Nat.le_refl _))
    have HR := Lib.hid hR
    clear hkp hR
    refine hK.out _ _ ?_ (fun hHeld => ?_)
    · try dsimp only
      exact HCL.out _ HT5.out HX5.out
    clear hK K
    try simp only [Act.put, List.setIfInBounds_toArray, List.set_cons_zero, List.set_cons_succ]
    refine wpAnyH_take (i := 8) (oi := ?_) (v := ?_) ?_ (by kernel_rfl) (by kernel_rfl) (by kernel_rfl) ?_ ?_ (by assumption) ?_
    rotate_left 2
    · simp only [List.getElem?_toArray, List.getElem?_cons_succ, List.getElem?_cons_zero]; rfl
    · exact fun _ _ _ h => h
    · first
        | (refine Or.inr ⟨?_, ?_⟩ <;> rfl)
        | (refine Or.inl ⟨?_, ?_⟩; · rfl
           intro w hSw; (try dsimp only at hSw); go_simp; (try with_reducible rfl); done)
    try simp only [Act.put, List.setIfInBounds_toArray, List.set_cons_zero, List.set_cons_succ]
    refine wpAnyH_done (by kernel_rfl) ?_ _
    go_wp2_with fail
    go_ret
    exact ⟨t, rfl, HR.out⟩
end Go.Proofs.YtlkdmpfifpkpaaaGreatDoor
namespace Go.Proofs.YtlkdmpfifpkpaaaGreatDoor
open Go.RowKit

/-- the command of words; 9 where they are none -/
def cmdK (w0 : ByteArray) (n : Nat) : Nat := if ixC w0 < 9 ∧ (cmN (ixC w0) < 0 ∨ cmN (ixC w0) = n) then ixC w0 else 9
theorem cmdK_some {w0 : ByteArray} {n k : Nat} (h : cmdK w0 n = k) (hk : k < 9) : ixC w0 = k ∧ (cmN k < 0 ∨ cmN k = n) := by
  unfold cmdK at h
  split at h
  · rename_i h2
    subst h
    exact ⟨rfl, h2.2⟩
  · omega
/-- the words of a line -/
def wdL (t : ByteArray) : List ByteArray := Lib.splitB ⟨#[32]⟩ 0 (Lib.countB t ⟨#[32]⟩) t
/-- the first word -/
def wd0 (t : ByteArray) : ByteArray := ((wdL t)[0]?).getD ⟨#[]⟩
theorem wdL_len (t : ByteArray) : (wdL t).length = Lib.countB t ⟨#[32]⟩ + 1 := Lib.splitB_all ⟨#[32]⟩ (by decide) 0 _ t rfl
theorem wdL_le (t : ByteArray) : (wdL t).length ≤ t.size + 1 := by
  have := Lib.countB_le ⟨#[32]⟩ (by decide) t.size t (Nat.le_refl _)
  rw [wdL_len]
  omega
/-- a row of words that was just cut -/
theorem wd_cell (t : ByteArray) (w : World) {i : Nat} (h : i < (wdL t).length) : (w.alloc (.cells ((wdL t).map Value.string).toArray 9)).cell? ⟨w.heap.size, i, none⟩ = some (.string (((wdL t)[i]?).getD ⟨#[]⟩)) := by
  have hh : (w.alloc (.cells ((wdL t).map Value.string).toArray 9)).heap[w.heap.size]? = some (.cells ((wdL t).map Value.string).toArray 9 (0, 0)) := heap_alloc_new _ _
  simp only [World.cell?, hh]
  simp [h]
end Go.Proofs.YtlkdmpfifpkpaaaGreatDoor
namespace Go.Proofs.YtlkdmpfifpkpaaaGreatDoor
open Go.RowKit

theorem Kp.mono {B C : Nat} {w w' : World} (h : Kp B w w') (hc : B ≤ C) : Kp C w w' := fun b h1 h2 => h b (Nat.le_trans hc h1) h2
/-- a word of a line -/
def wdI (t : ByteArray) (i : Nat) : ByteArray := ((wdL t)[i]?).getD ⟨#[]⟩
set_option maxRecDepth 100000 in
set_option maxHeartbeats 2000000 in
set_option linter.unusedSimpArgs false in
theorem answer_some (s k : Nat) (t : ByteArray) (m : Int) (R : ByteArray → World → Prop) (w : World) (ht : t.size ≤ 1000) (hm : w.cell? ⟨0, 0, none⟩ = some (.int .i64 m)) (hc : cmdK (wd0 t) (wdL t).length = k) (hk : k < 9)
    (HC : ∀ W bw, Below w.heap.size w W → w.heap.size ≤ bw → bw < W.heap.size → (∀ i, i < (wdL t).length → W.cell? ⟨bw, i, none⟩ = some (.string (wdI t i))) → Calls Tryz.prog (cmF k) #[.pointer (some ⟨s, 0, none⟩), .slice (some ⟨bw, 0, none⟩) (wdL t).length (wdL t).length] W fun e w' => ∃ o, e = .returned (.string o) ∧ Kp w.heap.size W w' ∧ R o w') :
    Calls Tryz.prog 37 #[.pointer (some ⟨s, 0, none⟩), .string t] w fun e w' => ∃ o w2, e = .returned (.string o) ∧ R o w2 ∧ w.heap.size < w2.heap.size ∧ w' = w2.setCell ⟨w.heap.size, 0, none⟩ (.string o) := by
  have hmf : ∀ (fn : Fn) (first cap : Array Value) (w : World), (Instr.makeFunc fn first cap).run Tryz.prog w = .ok (.func fn first cap) w := fun _ _ _ _ => rfl
  have H00 : 0 < w.heap.size := World.block_lt_of_cell? w ⟨0, 0, none⟩ hm
  have HX0 : Hid (Bx (w.alloc (.cells #[.string ⟨#[]⟩] 9)) w.heap.size 9 #[.string ⟨#[]⟩]) := Bx.new _ _ _
  have HB0 : Hid (Below w.heap.size w (w.alloc (.cells #[.string ⟨#[]⟩] 9))) := below_all _ _
  have HSP : Hid (∀ W, Below w.heap.size w W → Calls Tryz.prog 35 #[.string t, .string ⟨#[32]⟩] W fun e w' => e = .returned (.slice (some ⟨W.heap.size, 0, none⟩) (wdL t).length (wdL t).length) ∧ w' = W.alloc (.cells ((wdL t).map Value.string).toArray 9)) := fun W h => by
    have q := Tryz.strings_Split t ⟨#[32]⟩ m W (by omega) (by rw [h.cell (p := ⟨0, 0, none⟩) H00]; exact hm) (by decide)
    rw [← wdL_len] at q
    exact q
  have HLP : Hid (0 < (wdL t).length) := by show _ < _; rw [wdL_len]; omega
  have hle := wdL_le t
  have HWC : Hid (∀ W : World, ∀ i, i < (wdL t).length → (W.alloc (.cells ((wdL t).map Value.string).toArray 9)).cell? ⟨W.heap.size, i, none⟩ = some (.string (wdI t i))) := fun W i hi => wd_cell t W hi
  have HW0 : Hid (wdI t 0 = wd0 t) := rfl
  obtain ⟨hk1, hk2⟩ := cmdK_some hc hk
  have HK1 := Lib.hid hk1
  have HK2 := Lib.hid hk2
  have HCC := Lib.hid HC
  clear hc hk1 hk2 HC
  generalize (wdL t).map Value.string = ws at *
  generalize (wdL t).length = n at *
  go_enter_defers Tryz.func37, Tryz.ntmps37
  go_wp2_with fail
  refine (HSP.out _ HB0.out).mono ?_
  rintro e w1 ⟨rfl, rfl⟩
  have hza : w.heap.size < (w.alloc (.cells #[.string ⟨#[]⟩] 9)).heap.size := by simp
  generalize w.alloc (.cells #[.string ⟨#[]⟩] 9) = wa at *
  have HX1 := Lib.hid (HX0.out.alloc (.cells ws.toArray 9))
  have HB1 := Lib.hid (HB0.out.alloc HB0.out.size (.cells ws.toArray 9))
  have HWB := Lib.hid (HWC.out wa)
  have hzb : wa.heap.size < (wa.alloc (.cells ws.toArray 9)).heap.size := by simp
  generalize wa.alloc (.cells ws.toArray 9) = wb at *
  have HD : Hid (Calls Tryz.prog 57 #[.pointer (some ⟨s, 0, none⟩), .slice (some ⟨wa.heap.size, 0, none⟩) n n] wb fun e w' => ∃ o, e = .returned (.string o) ∧ R o w' ∧ Bx w' w.heap.size 9 #[.string ⟨#[]⟩]) := by
    refine do_some s wa.heap.size 0 n n k (wd0 t) (fun o w' => R o w' ∧ Bx w' w.heap.size 9 #[.string ⟨#[]⟩]) wb HLP.out (by omega) (by rw [HWB.out 0 HLP.out, HW0.out]) hk HK1.out HK2.out (fun W hW => ?_)
    refine (HCC.out W wa.heap.size (HB1.out.trans (hW.mono HB1.out.size)) (by omega) (by have := hW.size; omega) (fun i hi => ?_)).mono ?_
    · rw [hW.cell (p := ⟨wa.heap.size, i, none⟩) hzb]
      exact HWB.out i hi
    · rintro e w' ⟨o, rfl, hkp, hR⟩
      exact ⟨o, rfl, hkp.mono (by omega), hR, (HX1.out.below hW HX1.out.lt).kp hkp (Nat.le_refl _)⟩
  go_wp2_with fail
  refine HD.out.mono ?_
  rintro e w2 ⟨o, rfl, hR, hX⟩
  have HR := Lib.hid hR
  have HX2 := Lib.hid hX
  have hxc := hX.cell
  have hxf := hX.free
  have hxl := hX.lt
  clear hR hX HD
  go_wp2_with fail
  refine leaves_cons (f := 56) (args := #[.pointer (some ⟨w.heap.size, 0, none⟩)]) (by simp) (by simp [go_sem]) ?_
  refine (catch_idle w.heap.size _).mono ?_
  rintro e u' w'' ⟨rfl, rfl, rfl⟩
  have HX3 := Lib.hid (HX2.out.set 0 (.string o))
  clear hxc hxf
  have hw3 : ∃ w3, w3 = w2.setCell ⟨w.heap.size, 0, none⟩ (.string o) := ⟨_, rfl⟩
  obtain ⟨w3, hw3⟩ := hw3
  rw [← hw3] at HX3 ⊢
  have hxc : w3.cell? ⟨w.heap.size, 0, none⟩ = some (.string o) := HX3.out.cell 0
  simp [Leaves, settle, results, Tryz.results37, go_sem, hxc]
  exact ⟨w2, HR.out, hxl, hw3⟩
end Go.Proofs.YtlkdmpfifpkpaaaGreatDoor
namespace Go.Proofs.YtlkdmpfifpkpaaaGreatDoor
open Go.RowKit

/-- no block changes but those of a set, and new ones -/
structure Fr (S : Nat → Prop) (w w' : World) : Prop where
  os : w'.os = w.os
  tape : w'.tape = w.tape
  output : w'.output = w.output
  size : w.heap.size ≤ w'.heap.size
  block : ∀ k, k < w.heap.size → ¬ S k → w'.heap[k]? = w.heap[k]?
theorem Fr.refl (S : Nat → Prop) (w : World) : Fr S w w := ⟨rfl, rfl, rfl, Nat.le_refl _, fun _ _ _ => rfl⟩
theorem Fr.trans {S : Nat → Prop} {a b c : World} (h : Fr S a b) (k : Fr S b c) : Fr S a c :=
  ⟨k.os.trans h.os, k.tape.trans h.tape, k.output.trans h.output, Nat.le_trans h.size k.size, fun i hi hs => (k.block i (Nat.lt_of_lt_of_le hi h.size) hs).trans (h.block i hi hs)⟩
theorem Fr.mono {S T : Nat → Prop} {w w' : World} (h : Fr S w w') (hs : ∀ k, k < w.heap.size → S k → T k) : Fr T w w' :=
  ⟨h.os, h.tape, h.output, h.size, fun k hk ht => h.block k hk (fun hS => ht (hs k hk hS))⟩
theorem Fr.of_below {w w' : World} (h : Below w.heap.size w w') (S : Nat → Prop) : Fr S w w' := ⟨h.os, h.tape, h.output, h.size, fun k hk _ => h.block k hk⟩
theorem Fr.below {S : Nat → Prop} {B : Nat} {w w' : World} (h : Fr S w w') (hS : ∀ k, S k → B ≤ k) (hB : B ≤ w.heap.size) : Below B w w' := ⟨h.os, h.tape, h.output, h.size, fun k hk => h.block k (by omega) (fun q => by have := hS k q; omega)⟩
theorem Fr.set (w : World) (a : Addr) (v : Value) : Fr (fun k => k = a.block) w (w.setCell a v) :=
  ⟨rfl, rfl, rfl, by simp, fun k _ hs => Below.heap_setCell _ _ _ _ hs⟩
theorem Bx.fr {S : Nat → Prop} {w w' : World} {b : Nat} {t : TypeId} {cs : Array Value} (h : Bx w b t cs) (hf : Fr S w w') (hb : ¬ S b) : Bx w' b t cs := h.of_block (hf.block b h.lt hb)
theorem Own.fr {S : Nat → Prop} {w w' : World} {g cap n s : Nat} {t : TypeId} {f : Nat → Value} (h : Own w g cap n s t f) (hf : Fr S w w') (hb : ¬ S g) : Own w' g cap n s t f := h.of_block (hf.block g h.lt hb)
/-- a builder whose blocks lie in a set -/
def SbS (U : Nat → Prop) (B b : Nat) (bs : List Value) (w : World) : Prop :=
  ∃ p, (p = .pointer none ∨ p = .pointer (some ⟨b, 0, none⟩)) ∧ B ≤ b ∧ U b ∧ ∃ v, w.heap[b]? = some (.cells #[p, v] 59 (0, 0)) ∧ w.ownsRow B 5 1 v bs.length bs ∧ v.ownBlock ≠ some b ∧ ∀ q, v.ownBlock = some q → U q
theorem SbS.sb {U : Nat → Prop} {B b : Nat} {bs : List Value} {w : World} (h : SbS U B b bs w) : Sb B b bs w := by
  obtain ⟨p, hp, h1, _, v, h2, h3, h4, _⟩ := h
  rcases hp with rfl | rfl
  · exact .inl ⟨h1, v, h2, h3, h4⟩
  · exact .inr ⟨h1, v, h2, h3, h4⟩
theorem SbS.imp {U V : Nat → Prop} {B b : Nat} {bs : List Value} {w : World} (h : SbS U B b bs w) (hv : ∀ q, q < w.heap.size → U q → V q) : SbS V B b bs w := by
  obtain ⟨p, hp, h1, hu, v, h2, h3, h4, h5⟩ := h
  have hlt : b < w.heap.size := by
    rcases Nat.lt_or_ge b w.heap.size with h' | h'
    · exact h'
    · simp [Array.getElem?_eq_none h'] at h2
  exact ⟨p, hp, h1, hv b hlt hu, v, h2, h3, h4, fun q hq => hv q (h3.lt q hq).2 (h5 q hq)⟩
theorem SbS.fr {U S : Nat → Prop} {B b : Nat} {bs : List Value} {w w' : World} (h : SbS U B b bs w) (hf : Fr S w w') (hd : ∀ q, U q → ¬ S q) : SbS U B b bs w' := by
  obtain ⟨p, hp, h1, hu, v, h2, h3, h4, h5⟩ := h
  have hlt : b < w.heap.size := by
    rcases Nat.lt_or_ge b w.heap.size with h' | h'
    · exact h'
    · simp [Array.getElem?_eq_none h'] at h2
  refine ⟨p, hp, h1, hu, v, (hf.block b hlt (hd b hu)).trans h2, ?_, h4, h5⟩
  refine ⟨h3.1, ?_⟩
  rcases h3.2 with hn | ⟨g, cap, cur, rfl, hb, hgg, rest⟩
  · exact .inl hn
  · refine .inr ⟨g, cap, cur, rfl, hb, ?_, rest⟩
    rw [hf.block g (Array.getElem?_eq_some_iff.1 hgg).1 (hd g (h5 g rfl))]
    exact hgg
/-- where the bytes lie behind an append of a text -/
theorem app_block {P : Program} {w w' : World} {base : Nat} {t u ty e : TypeId} {i : TypeInfo} (ht : P.underlying t = some (.slice e)) (hu : P.underlying u = some .string) (hi : P.info? e = some i) (hz : i.zero = some (.int .u8 0)) (hsize : i.size = 1) (hby : i.bytes = 1)
    {v v' : Value} {n : Nat} {xs : List Value} (hown : w.ownsRow base e 1 v n xs) (s : ByteArray) (h63 : n + s.size ≤ maxLen) (hbytes : n + s.size ≤ 140737488355328)
    (hr : (Builtin.append_ #[t, u] ty #[v, .string s]).run P w = .ok v' w') (hnil : v' = .slice none 0 0 ↔ v = .slice none 0 0 ∧ s.size = 0) : ∀ q, v'.ownBlock = some q → v.ownBlock = some q ∨ q = w.heap.size := by
  have hsmall : n + s.size ≤ 9223372036854775807 := by simp only [maxLen] at h63; omega
  have hxl : xs.length = n := by simpa using hown.1
  intro q hq
  rcases hown.2 with ⟨rfl, rfl⟩ | ⟨g, cap, cur, rfl, hbg, hg, hnc, hcm, hcs, htake⟩
  · by_cases hm : s.size = 0
    · rw [hnil.2 ⟨rfl, hm⟩] at hq
      cases hq
    · have h2 := run_append_nil_string (P := P) w t u ty e i (.int .u8 0) ht hu hi hz s (by omega) (by omega) (by rw [hby]; omega)
      rw [hr] at h2
      cases h2
      right
      have : some w.heap.size = some q := hq
      cases this
      rfl
  · by_cases hroom : n + s.size ≤ cap
    · have hcs' : cur.size = cap := by simpa using hcs
      have h2 := Lib.run_append_room_string (P := P) w t u ty e i ht hu hi hsize g n cap cur hg s hroom (by omega)
      rw [hr] at h2
      cases h2
      exact .inl hq
    · have holds : ∀ j u, xs[j]? = some u → w.cell? ((⟨g, 0, none⟩ : Addr).add j) = some u := hown.cells (g := g) rfl
      have h2 := Lib.run_append_grow_string (P := P) w t u ty e i (.int .u8 0) ht hu hi hz ⟨g, 0, none⟩ n cap xs (by rw [hsize]; simpa using hxl) holds s (by omega) (by omega) (by rw [hby]; exact growslice_fits (by omega) (by omega))
      rw [hr] at h2
      cases h2
      right
      have : some w.heap.size = some q := hq
      cases this
      rfl
theorem wpList_appT {P : Program} {w : World} {ops : Array Oper} {rest : List Oper} {o : Oper} {a : Act} {Q : Exit → Act → World → Prop} (hgd : o.guard = none) (sl x : Operand) (t u : TypeId)
    (ho : o.op = .call { callee := .builtin .append, args := #[sl, x], argTypes := #[t, u] })
    (base : Nat) (e : TypeId) (i : TypeInfo) (ht : P.underlying t = some (.slice e)) (hu : P.underlying u = some .string) (hi : P.info? e = some i) (hz : i.zero = some (.int .u8 0))
    (hsize : i.size = 1) (hby : i.bytes = 1)
    (v : Value) (n : Nat) (xs : List Value) (hs : a.eval sl = v) (hown : w.ownsRow base e 1 v n xs) (s : ByteArray) (hx : a.eval x = .string s)
    (h63 : n + s.size ≤ maxLen) (hbytes : n + s.size ≤ 140737488355328) (hbase : base ≤ w.heap.size)
    (h : ∀ v' w', w'.ownsRow base e 1 v' (n + s.size) (xs ++ Lib.strCells s) → w.grownBy w' v.ownBlock → (∀ q, v'.ownBlock = some q → v.ownBlock = some q ∨ q = w.heap.size) → wpList P ops Q rest (a.put o.dst v') w') : wpList P ops Q (o :: rest) a w := by
  refine wpList_plain hgd fun K hK => ?_
  obtain ⟨v', w', hr, h2, h3, h4⟩ := Lib.run_append_own_string (P := P) (w := w) base t u o.type e i ht hu hi hz hsize hby v n xs hown s h63 hbytes hbase
  have h5 := app_block ht hu hi hz hsize hby hown s h63 hbytes hr h4
  unfold Oper.wp execOp
  simp only [ho, resolve, invoke, builtin, Sem.run_bind, Sem.run_pure, Result.andThen_ok, List.map_toArray, List.map_cons, List.map_nil, hs, hx, hr]
  exact hK _ _ (h v' w' h2 h3 h5)
set_option maxRecDepth 100000 in
set_option maxHeartbeats 1000000 in
theorem copyCheckF_any (B b : Nat) (bs : List Value) (w : World) (p v : Value) (h : Sb B b bs w) (hx : Bx w b 59 #[p, v]) :
    Calls Tryz.prog 55 #[.pointer (some ⟨b, 0, none⟩)] w fun e w' => e = .returned (.tuple #[]) ∧ SbU B b bs w' ∧ Below B w w' ∧ Fr (fun k => k = b) w w' ∧ Bx w' b 59 #[.pointer (some ⟨b, 0, none⟩), v] := by
  have HXB := Lib.hid hx
  clear hx
  have hs1 : (Tryz.prog.info? 59).map (·.size) = some 2 := by kernel_rfl
  obtain ⟨j, hj, hjs⟩ := Option.map_eq_some_iff.1 hs1
  have hJ := Lib.hid hj
  have hJS := Lib.hid hjs
  have hlies : liesAt Tryz.prog Tryz.prog.depth 59 (2 / Tryz.prog.cellsOf 59) 0 59 1 = true := by kernel_rfl
  have HL := Lib.hid hlies
  clear hs1 hj hjs hlies
  rcases h with h | h
  · have HB := Lib.hid h
    have hc := h.cell0
    have hf := h.frozen0
    have HSH := Lib.hid h.shape
    clear h
    go_enter Tryz.func55, Tryz.ntmps55
    go_wp2_with fail
    rw [Lib.run_to_unsafe (P := Tryz.prog) (w := w) ⟨b, 0, none⟩ Tryz.underlying57 Tryz.underlying112 hJ.out (by rw [hJS.out]; decide) HSH.out (Nat.zero_lt_succ 1)]
    simp only [Result.andThen]
    rw [Oper.upon_value]
    go_wp2_with fail
    rw [run_callFunc_extern Tryz.func73 (by kernel_rfl) (by kernel_rfl) (by kernel_rfl) (e := Extern.AbiNoEscape.same) (by kernel_rfl)]
    rw [Lib.run_noEscape]
    simp only [Result.andThen]
    rw [Oper.upon_value]
    go_wp2_with fail
    rw [Lib.run_from_unsafe (P := Tryz.prog) (w := w) ⟨b, 0, none⟩ Tryz.underlying112 Tryz.underlying57 hJ.out HSH.out HL.out]
    simp only [Result.andThen]
    rw [Oper.upon_value]
    go_wp2_with fail
    go_end0
    exact ⟨rfl, HB.out.used _, (Below.refl B w).setCell (p := ⟨b, 0, none⟩) HB.out.1 _, Fr.set w ⟨b, 0, none⟩ _, HXB.out.set 0 _⟩
  · have HB := Lib.hid h
    have hc := h.cell0
    clear h
    go_enter Tryz.func55, Tryz.ntmps55
    go_wp2_with fail
    rw [Lib.run_neq_ptr_same (P := Tryz.prog) (w := w) _ Tryz.underlying57 hJ.out]
    go_wp2_with fail
    go_end0
    have hpe : p = .pointer (some ⟨b, 0, none⟩) := by
      have e1 := HXB.out.cell 0
      have e2 := HB.out.cell0
      rw [e2] at e1
      simpa using e1.symm
    exact ⟨rfl, HB.out, Below.refl B _, Fr.refl _ _, by rw [← hpe]; exact HXB.out⟩
set_option maxRecDepth 100000 in
set_option maxHeartbeats 2000000 in
theorem writeStringF_any (U : Nat → Prop) (B b : Nat) (bs : List Value) (s : ByteArray) (w : World) (h : SbS U B b bs w) (hlen : bs.length + s.size ≤ 140737488355328) (hBw : B ≤ w.heap.size) :
    Calls Tryz.prog 36 #[.pointer (some ⟨b, 0, none⟩), .string s] w fun e w' => e = .returned (.tuple #[.int .i64 s.size, .nilIface]) ∧ SbS (fun q => U q ∨ w.heap.size ≤ q) B b (bs ++ Lib.strCells s) w' ∧ Below B w w' ∧ Fr U w w' := by
  have HH := Lib.hid h.sb
  have HS := Lib.hid h
  obtain ⟨p0, _, _, hUb, v0, hv0, hown0, _, hUq⟩ := HS.out
  have hx0 : Bx w b 59 #[p0, v0] := hv0
  clear h
  obtain ⟨i0, hi, hz0, hz1, hz2⟩ := info_parts (P := Tryz.prog) (e := 5) (z := .int .u8 0) (size := 1) (bytes := 1) (by kernel_rfl)
  have HI := Lib.hid hi
  clear hi
  go_enter Tryz.func36, Tryz.ntmps36
  go_wp2_with (go_at_call 55; go_must (refine (copyCheckF_any B b bs _ p0 v0 HH.out hx0).mono ?_))
  rintro e w1 ⟨rfl, h1, hb1, hf1, hx1⟩
  obtain ⟨hB, v, hbk, hown, hne⟩ := h1
  obtain rfl : v = v0 := by
    have e1 : w1.cell? ⟨b, 1, none⟩ = some v := by rw [Lib.cell_of_heap hbk]; rfl
    have e2 : w1.cell? ⟨b, 1, none⟩ = some v0 := hx1.cell 1
    rw [e1] at e2
    exact Option.some.inj e2
  have c0 : w1.cell? ⟨b, 0, none⟩ = some (.pointer (some ⟨b, 0, none⟩)) := by rw [Lib.cell_of_heap hbk]; rfl
  have c1 : w1.cell? ⟨b, 1, none⟩ = some v := by rw [Lib.cell_of_heap hbk]; rfl
  have HBK := Lib.hid hbk
  clear hbk
  go_wp2_with (at_builtin; refine wpList_appT rfl _ _ 22 9 rfl B 5 i0 Tryz.underlying22 Tryz.underlying9 HI.out hz0 hz1 hz2 _ _ _ rfl hown s rfl ?c3 ?c4 ?c5 ?_)
  case c3 => unfold maxLen; omega
  case c4 => omega
  case c5 => have := hb1.size; omega
  intro v' w2 hown' hgrow hblk
  have hbk := HBK.out
  have hlt : b < w1.heap.size := by
    rcases Nat.lt_or_ge b w1.heap.size with h' | h'
    · exact h'
    · simp [Array.getElem?_eq_none h'] at hbk
  have hb2 : w2.heap[b]? = some (.cells #[.pointer (some ⟨b, 0, none⟩), v] 59 (0, 0)) := by
    rw [hgrow.block b hlt (fun e => hne e.symm)]
    exact hbk
  have d0 : w2.cell? ⟨b, 0, none⟩ = some (.pointer (some ⟨b, 0, none⟩)) := by rw [Lib.cell_of_heap hb2]; rfl
  have d1 : w2.cell? ⟨b, 1, none⟩ = some v := by rw [Lib.cell_of_heap hb2]; rfl
  have f1 : w2.frozen? ⟨b, 1, none⟩ = false := Lib.frozen_of_heap hb2 1
  obtain ⟨ao, n', cap, rfl⟩ : ∃ ao n' cap, v' = .slice ao n' cap := by
    rcases hown'.2 with ⟨hv, _⟩ | ⟨g, cap, cur, hv, _⟩
    · exact ⟨_, _, _, hv⟩
    · exact ⟨_, _, _, hv⟩
  have HB2 := Lib.hid hb2
  clear hb2 hbk
  go_wp2_with fail
  go_ret2
  have hb0 : b < w.heap.size := by
    rcases Nat.lt_or_ge b w.heap.size with h' | h'
    · exact h'
    · simp [Array.getElem?_eq_none h'] at hv0
  have hsz1 := hf1.size
  have hsz2 := hgrow.size
  refine ⟨rfl, ?_, ?_, ?_⟩
  · obtain ⟨q1, vv, q2, q3, q4⟩ := Lib.BuilderAt.put (T := 59) (e := 5) hB HB2.out (bs' := bs ++ Lib.strCells s) (by simpa [Lib.strCells_length] using hown') (by decide)
    have hvv : vv = .slice ao n' cap := by
      have e1 : (w2.setCell ⟨b, 1, none⟩ (.slice ao n' cap)).cell? ⟨b, 1, none⟩ = some vv := by rw [Lib.cell_of_heap q2]; rfl
      have e2 : (w2.setCell ⟨b, 1, none⟩ (.slice ao n' cap)).cell? ⟨b, 1, none⟩ = some (.slice ao n' cap) := by
        have hz : Bx w2 b 59 #[.pointer (some ⟨b, 0, none⟩), v] := HB2.out
        exact (hz.set 1 (.slice ao n' cap)).cell 1
      rw [e1] at e2
      exact Option.some.inj e2
    subst hvv
    refine ⟨_, .inr rfl, q1, .inl hUb, _, q2, q3, q4, fun q hq => ?_⟩
    rcases hblk q hq with h5 | h5
    · exact .inl (hUq q h5)
    · right; omega
  · exact (hb1.grown hgrow (by have := hb1.size; omega) (fun k hk => (hown.lt k hk).1)).setCell (p := ⟨b, 1, none⟩) hB _
  · refine (hf1.mono (fun k _ e => by rw [e]; exact hUb)).trans (Fr.trans ⟨hgrow.os, hgrow.tape, hgrow.output, hgrow.size, fun k hk hs => hgrow.block k hk (fun e => hs (hUq k e.symm))⟩ ((Fr.set w2 ⟨b, 1, none⟩ _).mono (fun k _ e => by rw [e]; exact hUb)))
end Go.Proofs.YtlkdmpfifpkpaaaGreatDoor
namespace Go.Proofs.YtlkdmpfifpkpaaaGreatDoor
open Go.RowKit

/-- the seven letters -/
def eL : List UInt8 := [97, 99, 101, 102, 108, 111, 114]
/-- those of the first m that a state takes -/
def nxT (k m : Nat) : List UInt8 := (eL.take m).filter (fun c => decide (nx k c.toNat < 5))
end Go.Proofs.YtlkdmpfifpkpaaaGreatDoor
namespace Go.Proofs.YtlkdmpfifpkpaaaGreatDoor
open Go.RowKit

/-- a row of blocks -/
def BkC (w : World) (b off n : Nat) (N : Nat → Int) (I O : Nat → Bool) : Prop :=
  ∀ k, k < n → w.cell? ⟨b, off + k * 3, none⟩ = some (.int .i64 (N k)) ∧ w.cell? ⟨b, off + k * 3 + 1, none⟩ = some (.bool (I k)) ∧ w.cell? ⟨b, off + k * 3 + 2, none⟩ = some (.bool (O k))
theorem BkC.at {w : World} {b off n : Nat} {N : Nat → Int} {I O : Nat → Bool} (h : BkC w b off n N I O) (k : Nat) (hk : k < n) :
    w.cell? ⟨b, off + k * 3, none⟩ = some (.int .i64 (N k)) ∧ w.cell? ⟨b, off + k * 3 + 1, none⟩ = some (.bool (I k)) ∧ w.cell? ⟨b, off + k * 3 + 2, none⟩ = some (.bool (O k)) := h k hk
theorem BkC.below {w w' : World} {b off n B : Nat} {N : Nat → Int} {I O : Nat → Bool} (h : BkC w b off n N I O) (hb : Below B w w') (hB : b < B) : BkC w' b off n N I O := fun k hk => by
  obtain ⟨h1, h2, h3⟩ := h k hk
  exact ⟨by rw [hb.cell (p := ⟨b, off + k * 3, none⟩) hB]; exact h1, by rw [hb.cell (p := ⟨b, off + k * 3 + 1, none⟩) hB]; exact h2, by rw [hb.cell (p := ⟨b, off + k * 3 + 2, none⟩) hB]; exact h3⟩

/-- how many of the first m stand at a place -/
def cntA (f : Nat → Int) (p : Int) : Nat → Nat
  | 0 => 0
  | m + 1 => cntA f p m + if f m = p then 1 else 0
theorem cntA_le (f : Nat → Int) (p : Int) : ∀ m, cntA f p m ≤ m
  | 0 => Nat.le_refl _
  | m + 1 => by
    have := cntA_le f p m
    simp only [cntA]
    split <;> omega
set_option linter.unusedSimpArgs false in
theorem count_any (r : Nat) (bv : Value) (b off n c : Nat) (f : Nat → Int) (p : Int) (w : World) (hn : n ≤ 1000000000000) (hr : Bx w r 195 #[bv, .slice (some ⟨b, off, none⟩) n c]) (hc : IC w b off n f) :
    Calls Tryz.prog 160 #[.pointer (some ⟨r, 0, none⟩), .int .i64 p] w fun e w' => e = .returned (.int .i64 (cntA f p n)) ∧ w = w' := by
  have hrc := hr.cell
  clear hr
  go_enter Tryz.func160, Tryz.ntmps160
  go_wp2_with fail
  go_loop [5, 7, 13] (fun s _ si => ∃ k : Nat, k ≤ n ∧ si = .int .i64 k ∧ s = .int .i64 (cntA f p k)) (fun _ _ si => n - (intOf si).toNat)
  case atStart => exact ⟨0, Nat.zero_le _, rfl, rfl⟩
  case round =>
    obtain ⟨k, hk, rfl, rfl⟩ := hrel
    have hle := cntA_le f p k
    by_cases hlt : k < n
    · have hck := hc.at k hlt
      by_cases h1 : f k = p
      · have h2 : (f k == p) = true := by simp [h1]
        have HE : Hid (cntA f p (k + 1) = cntA f p k + 1) := by show _ = _; simp [cntA, h1]
        clear h1
        go_wp2_with fail
        go_round
        case rel => exact ⟨k + 1, by omega, by go_num, by rw [HE.out]; go_num⟩
        case measure => simp [intOf]; omega
      · have h2 : (f k == p) = false := by simp [h1]
        have HE : Hid (cntA f p (k + 1) = cntA f p k) := by show _ = _; simp [cntA, h1]
        clear h1
        go_wp2_with fail
        go_round
        case rel => exact ⟨k + 1, by omega, by go_num, by rw [HE.out]⟩
        case measure => simp [intOf]; omega
    · have e : k = n := by omega
      subst e
      go_wp2_with fail
      go_ret
      exact ⟨rfl, rfl⟩
theorem sectionsValid_any (n : Int) (w : World) (_hn : -9223372036854775808 ≤ n ∧ n ≤ 9223372036854775807) :
    Calls Tryz.prog 42 #[.int .i64 n] w fun e w' => e = .returned (.bool (inB n 1 5)) ∧ w = w' := by
  by_cases h : 1 ≤ n
  · have g : decide (1 ≤ n) = true := decide_eq_true h
    have H : Hid (inB n 1 5 = decide (n ≤ 5)) := by show _ = _; unfold inB; rw [g]; rfl
    go_enter Tryz.func42, Tryz.ntmps42
    go_wp2
    go_ret
    exact ⟨retB (by rw [H.out]), rfl⟩
  · have g : decide (1 ≤ n) = false := decide_eq_false h
    have H : Hid (inB n 1 5 = false) := by show _ = _; unfold inB; rw [g]; rfl
    go_enter Tryz.func42, Tryz.ntmps42
    go_wp2
    go_ret
    exact ⟨retB (by rw [H.out]), rfl⟩

/-- a block of a row is possible -/
def posB (N : Nat → Int) (I O : Nat → Bool) (k : Nat) : Bool := decide (stI (N k) (I k) (O k) < 5)
set_option linter.unusedSimpArgs false in
set_option maxHeartbeats 1000000 in
theorem blkPossible_any (b off n c : Nat) (N : Nat → Int) (I O : Nat → Bool) (w : World) (hn : n ≤ 1000000000000) (hc : BkC w b off n N I O) (hb : b < w.heap.size) :
    Calls Tryz.prog 159 #[.slice (some ⟨b, off, none⟩) n c] w fun e w' => e = .returned (.bool (inB n 1 5 && allB n (posB N I O))) ∧ Below w.heap.size w w' := by
  have HC := Lib.hid hc
  have HB := Lib.hid hb
  clear hc hb
  by_cases h1 : inB n 1 5 = true
  · go_enter Tryz.func159, Tryz.ntmps159
    go_wp2_with fail
    refine (sectionsValid_any _ _ (by omega)).mono ?_
    rintro e w' ⟨rfl, rfl⟩
    rw [h1]
    have H1 := Lib.hid h1
    clear h1
    go_wp2_with fail
    go_loopw [4, 11] (fun _ si wr => ∃ k : Nat, k ≤ n ∧ si = .int .i64 k ∧ Hid (∀ j, j < k → posB N I O j = true) ∧ Hid (Below w.heap.size w wr)) (fun _ si _ => n - (intOf si).toNat)
    case atStart => exact ⟨0, Nat.zero_le _, rfl, Lib.hid (fun j hj => by omega), Lib.hid (Below.refl _ _)⟩
    case round =>
      obtain ⟨k, hk, rfl, HA, HW⟩ := hrel
      by_cases hlt : k < n
      · obtain ⟨c0, c1, c2⟩ := (HC.out.below HW.out HB.out).at k hlt
        have HWB : Hid (∀ a, Below w.heap.size w (wr.alloc a)) := fun a => HW.out.alloc HW.out.size _
        by_cases h2 : posB N I O k = true
        · have HE := Lib.hid h2
          have h3 : decide (stI (N k) (I k) (O k) < 5) = true := h2
          clear h2
          go_wp2_with fail
          refine (possible_any _ _ _ _).mono ?_
          rintro e w2 ⟨rfl, hb⟩
          have HB2 := Lib.hid ((HWB.out _).trans (hb.mono (by have := HW.out.size; simp; omega)))
          clear hb
          rw [h3]
          go_wp2_with fail
          go_roundw
          case rel => exact ⟨k + 1, by omega, by go_num, Lib.hid (fun j hj => by
              by_cases e : j = k
              · rw [e]; exact HE.out
              · exact HA.out j (by omega)), HB2⟩
          case measure => simp [intOf]; omega
        · have HE : Hid (allB n (posB N I O) = false) := allB_not hlt (by simpa using h2)
          have h3 : decide (stI (N k) (I k) (O k) < 5) = false := by simpa [posB] using h2
          clear h2
          go_wp2_with fail
          refine (possible_any _ _ _ _).mono ?_
          rintro e w2 ⟨rfl, hb⟩
          have HB2 := Lib.hid ((HWB.out _).trans (hb.mono (by have := HW.out.size; simp; omega)))
          clear hb
          rw [h3]
          go_wp2_with fail
          go_ret
          exact ⟨retB (by rw [H1.out, HE.out]; rfl), HB2.out⟩
      · have e : k = n := by omega
        subst e
        go_wp2_with fail
        go_ret
        exact ⟨retB (by rw [H1.out, allB_of HA.out]; rfl), HW.out⟩
  · replace h1 := eq_false_of_ne_true h1
    go_enter Tryz.func159, Tryz.ntmps159
    go_wp2_with fail
    refine (sectionsValid_any _ _ (by omega)).mono ?_
    rintro e w' ⟨rfl, rfl⟩
    rw [h1]
    have H1 := Lib.hid h1
    clear h1
    go_wp2_with fail
    go_ret
    exact ⟨retB (by rw [H1.out]; rfl), Below.refl _ _⟩
/-- the events that a section still needs -/
def lefV (n : Int) (i o : Bool) (t : Nat) : Int :=
  if o = true ∧ 0 < t then 5 * t - 1 else if n = 1 ∧ 0 < t then 5 * t - 2 else if i = true then 5 * t + 2 else if n = 0 ∧ i = false ∧ o = false then 5 * t else 5 * t + 1
end Go.Proofs.YtlkdmpfifpkpaaaGreatDoor
namespace Go.Proofs.YtlkdmpfifpkpaaaGreatDoor
open Go.RowKit

/-- the cells of a row of blocks -/
def bkF (N : Nat → Int) (I O : Nat → Bool) (i : Nat) : Value :=
  if i % 3 = 0 then .int .i64 (N (i / 3)) else if i % 3 = 1 then .bool (I (i / 3)) else .bool (O (i / 3))
theorem elBk : Elem Tryz.prog 28 76 (.agg #[.int .i64 0, .bool false, .bool false]) 3 16 := ⟨Tryz.underlying28, by kernel_rfl, rfl, by decide⟩
theorem bkF_one (N : Nat → Int) (I O : Nat → Bool) (i : Nat) : (bkF N I O i).oneCell' = true := by
  unfold bkF
  split
  · rfl
  · split <;> rfl
theorem bk_new {w : World} {b off n : Nat} {N : Nat → Int} {I O : Nat → Bool} (h : BkC w b off n N I O) : ∀ j, j < n * 3 → w.cell? ((⟨b, off, none⟩ : Addr).add j) = some (bkF N I O (0 * 3 + j)) := by
  intro j hj
  obtain ⟨h0, h1, h2⟩ := h (j / 3) (by omega)
  rw [addr_add, Nat.zero_mul, Nat.zero_add]
  unfold bkF
  by_cases e0 : j % 3 = 0
  · rw [if_pos e0, ← h0, show off + j / 3 * 3 = off + j by omega]
  · rw [if_neg e0]
    by_cases e1 : j % 3 = 1
    · rw [if_pos e1, ← h1, show off + j / 3 * 3 + 1 = off + j by omega]
    · rw [if_neg e1, ← h2, show off + j / 3 * 3 + 2 = off + j by omega]
theorem BkC.of_own {w : World} {g cap n : Nat} {N : Nat → Int} {I O : Nat → Bool} {t : TypeId} (h : Own w g cap n 3 t (bkF N I O)) : BkC w g 0 n N I O := fun k hk => by
  have h0 := h.cell (i := k * 3) (by omega)
  have h1 := h.cell (i := k * 3 + 1) (by omega)
  have h2 := h.cell (i := k * 3 + 2) (by omega)
  rw [Nat.zero_add]
  refine ⟨?_, ?_, ?_⟩
  · rw [h0]; unfold bkF; rw [if_pos (by omega), show k * 3 / 3 = k by omega]
  · rw [h1]; unfold bkF; rw [if_neg (by omega), if_pos (by omega), show (k * 3 + 1) / 3 = k by omega]
  · rw [h2]; unfold bkF; rw [if_neg (by omega), if_neg (by omega), show (k * 3 + 2) / 3 = k by omega]
theorem cloneB_any (b off n c : Nat) (N : Nat → Int) (I O : Nat → Bool) (w : World) (hn : n ≤ 1000000000000) (hc : BkC w b off n N I O) :
    Calls Tryz.prog 157 #[.slice (some ⟨b, off, none⟩) n c] w fun e w' => ∃ g c', e = .returned (.slice (some ⟨g, 0, none⟩) n c') ∧ w.heap.size ≤ g ∧ Own w' g c' n 3 76 (bkF N I O) ∧ Below w.heap.size w w' := by
  have hnil := fun w => Lib.run_eql_slice_nil (P := Tryz.prog) w 28 76 (some ⟨b, off, none⟩) n c 0 0 Tryz.underlying28
  have hbb : ∀ a, Below w.heap.size w (w.alloc a) := fun a => (Below.refl _ _).alloc (Nat.le_refl _) _
  have hb : b < w.heap.size ∨ n = 0 := by
    rcases Nat.eq_zero_or_pos n with h | h
    · exact Or.inr h
    · exact Or.inl (World.block_lt_of_cell? w ⟨b, off + 0 * 3, none⟩ (hc 0 h).1)
  have HC : Hid (∀ a, BkC (w.alloc a) b off n N I O) := fun a => by
    rcases hb with hb | hb
    · exact hc.below (hbb a) hb
    · intro k hk; omega
  clear hc hb
  go_enter Tryz.func157, Tryz.ntmps157
  go_wp2_with (at_builtin; refine wpList_app elBk rfl (.tmp 5) (.tmp 6) rfl (own_empty w 3 _ (bkF N I O)) rfl ⟨b, off, none⟩ n c rfl (bk_new (HC.out _)) (fun _ _ => bkF_one _ _ _ _) (by unfold maxLen; omega) (by omega) ?_; intro g' c' wa HA hgr hd)
  have z := hgr.size
  rw [World.size_alloc] at z hd
  have hle : w.heap.size ≤ g' := by omega
  have hbl := (hbb (.cells #[] 76)).trans (below_of_grown hgr (Nat.le_refl _) (by simp))
  rw [Nat.zero_add] at HA
  have HO := Lib.hid HA
  have HBL := Lib.hid hbl
  clear HA hbl hgr hd
  go_wp2_with fail
  go_ret
  exact ⟨g', c', by simp, hle, HO.out, HBL.out⟩
end Go.Proofs.YtlkdmpfifpkpaaaGreatDoor
namespace Go.Proofs.YtlkdmpfifpkpaaaGreatDoor
open Go.RowKit

/-- a line as data: n blocks, m trains -/
structure Ln where
  n : Nat
  N : Nat → Int
  I : Nat → Bool
  O : Nat → Bool
  m : Nat
  T : Nat → Int
/-- the i-th train stands on the line, not ahead of the train before it -/
def trOk (x : Ln) (i : Nat) : Bool := inB (x.T i) 0 (2 * x.n) && (decide (i = 0) || decide (x.T i ≤ x.T (i - 1)))
/-- the k-th section has a train just where its block says so -/
def cnOk (x : Ln) (k : Nat) : Bool := decide (cntA x.T (2 * k + 1) x.m = if x.I k = true then 1 else 0)
def vldL (x : Ln) : Bool := inB x.n 1 5 && (decide (x.m ≤ 5) && (allB x.n (posB x.N x.I x.O) && (allB x.m (trOk x) && allB x.n (cnOk x))))
theorem vldL_true {x : Ln} (h : vldL x = true) : 1 ≤ x.n ∧ x.n ≤ 5 ∧ x.m ≤ 5 ∧ (∀ k, k < x.n → posB x.N x.I x.O k = true) ∧ (∀ i, i < x.m → trOk x i = true) ∧ (∀ k, k < x.n → cnOk x k = true) := by
  simp only [vldL, Bool.and_eq_true, inB_true, decide_eq_true_eq, allB_true] at h
  obtain ⟨⟨h1, h2⟩, h3, h4, h5, h6⟩ := h
  exact ⟨by omega, by omega, h3, h4, h5, h6⟩
theorem vldL_sec {x : Ln} (h : inB x.n 1 5 = false) : vldL x = false := by simp [vldL, h]
theorem vldL_many {x : Ln} (h : ¬ x.m ≤ 5) : vldL x = false := by simp [vldL, h]
theorem vldL_pos {x : Ln} (h : allB x.n (posB x.N x.I x.O) = false) : vldL x = false := by simp [vldL, h]
theorem vldL_tr {x : Ln} {i : Nat} (hi : i < x.m) (h : trOk x i = false) : vldL x = false := by simp [vldL, allB_not hi h]
theorem vldL_cn {x : Ln} {k : Nat} (hk : k < x.n) (h : cnOk x k = false) : vldL x = false := by simp [vldL, allB_not hk h]
theorem vldL_of {x : Ln} (h1 : inB x.n 1 5 = true) (h2 : x.m ≤ 5) (h3 : ∀ k, k < x.n → posB x.N x.I x.O k = true) (h4 : ∀ i, i < x.m → trOk x i = true) (h5 : ∀ k, k < x.n → cnOk x k = true) : vldL x = true := by
  simp [vldL, h1, h2, allB_of h3, allB_of h4, allB_of h5]

/-- the first of m that stands at a place; m where there is none -/
def fstA (f : Nat → Int) (p : Int) : Nat → Nat
  | 0 => 0
  | m + 1 => if fstA f p m < m then fstA f p m else if f m = p then m else m + 1
theorem fstA_at (f : Nat → Int) (p : Int) : ∀ m, fstA f p m < m → f (fstA f p m) = p
  | 0, h => by omega
  | m + 1, h => by
    have ih := fstA_at f p m
    simp only [fstA] at h ⊢
    split
    · rename_i h1; exact ih h1
    · rename_i h1
      rw [if_neg h1] at h
      split
      · rename_i h2; exact h2
      · rename_i h2; rw [if_neg h2] at h; omega
theorem fstA_none (f : Nat → Int) (p : Int) : ∀ m, (∀ j, j < m → f j ≠ p) → fstA f p m = m
  | 0, _ => rfl
  | m + 1, h => by
    have ih := fstA_none f p m (fun j hj => h j (by omega))
    simp only [fstA, ih, Nat.lt_irrefl, if_false, h m (by omega)]
theorem fstA_stop (f : Nat → Int) (p : Int) {k : Nat} (h : ∀ j, j < k → f j ≠ p) (hk : f k = p) : ∀ m, k < m → fstA f p m = k
  | 0, hm => by omega
  | m + 1, hm => by
    rcases Nat.lt_or_ge k m with h1 | h1
    · have ih := fstA_stop f p h hk m h1
      simp only [fstA, ih, h1, if_true]
    · obtain rfl : k = m := by omega
      simp only [fstA, fstA_none f p k h, Nat.lt_irrefl, if_false, hk, if_true]
def eB (l : ByteArray) : Bool := decide (l = chr 101)
def lB (l : ByteArray) : Bool := decide (l = chr 108)
/-- the place that a train leaves -/
def plI (s : Int) (l : ByteArray) : Int := if eB l = true then 2 * s else if lB l = true then 2 * s + 1 else -1
/-- the number of the state behind a move -/
def mvJ (x : Ln) (s : Int) (l : ByteArray) : Nat := bsI (x.N s.toNat) (x.I s.toNat) (x.O s.toNat) l
def mvOk (x : Ln) (s : Int) (l : ByteArray) : Bool := inB s 0 (x.n - 1) && (decide (mvJ x s l < 5) && (!(eB l || lB l) || decide (fstA x.T (plI s l) x.m < x.m)))
def mvTo (x : Ln) (s : Int) (l : ByteArray) : Ln :=
  { n := x.n, N := upd x.N s.toNat (stB (mvJ x s l)).n, I := upd x.I s.toNat (stB (mvJ x s l)).i, O := upd x.O s.toNat (stB (mvJ x s l)).o, m := x.m,
    T := if (eB l || lB l) = true then upd x.T (fstA x.T (plI s l) x.m) (plI s l + 1) else x.T }
def stepO (x : Ln) (s : Int) (l : ByteArray) : Option Ln := if mvOk x s l = true then some (mvTo x s l) else none
end Go.Proofs.YtlkdmpfifpkpaaaGreatDoor
namespace Go.Proofs.YtlkdmpfifpkpaaaGreatDoor
open Go.RowKit

/-- block r is a railway with rows of its own that hold a line -/
structure RwC (w : World) (r gb cb gt ct : Nat) (x : Ln) : Prop where
  box : Bx w r 195 #[.slice (some ⟨gb, 0, none⟩) x.n cb, .slice (some ⟨gt, 0, none⟩) x.m ct]
  bs : Own w gb cb x.n 3 76 (bkF x.N x.I x.O)
  ts : Own w gt ct x.m 1 3 (fun i => .int .i64 (x.T i))
  d1 : gb ≠ gt
  d2 : r ≠ gb
  d3 : r ≠ gt
theorem RwC.below {w w' : World} {r gb cb gt ct B : Nat} {x : Ln} (h : RwC w r gb cb gt ct x) (hb : Below B w w') (hB : w.heap.size ≤ B) : RwC w' r gb cb gt ct x :=
  ⟨h.box.below hb (Nat.lt_of_lt_of_le h.box.lt hB), h.bs.below hb (Nat.lt_of_lt_of_le h.bs.lt hB), h.ts.below hb (Nat.lt_of_lt_of_le h.ts.lt hB), h.d1, h.d2, h.d3⟩
theorem RwC.bk {w : World} {r gb cb gt ct : Nat} {x : Ln} (h : RwC w r gb cb gt ct x) : BkC w gb 0 x.n x.N x.I x.O := BkC.of_own h.bs
theorem RwC.ic {w : World} {r gb cb gt ct : Nat} {x : Ln} (h : RwC w r gb cb gt ct x) : IC w gt 0 x.m x.T := IC.of_own h.ts

theorem RwC.tr {w : World} {r gb cb gt ct : Nat} {x : Ln} (h : RwC w r gb cb gt ct x) {j : Nat} (hj : j < x.m) : w.cell? ⟨gt, j, none⟩ = some (.int .i64 (x.T j)) := h.ts.cell1 hj
theorem RwC.bl {w : World} {r gb cb gt ct : Nat} {x : Ln} (h : RwC w r gb cb gt ct x) {k : Nat} (hk : k < x.n) : w.cell? ⟨gb, k * 3, none⟩ = some (.int .i64 (x.N k)) ∧ w.cell? ⟨gb, k * 3 + 1, none⟩ = some (.bool (x.I k)) ∧ w.cell? ⟨gb, k * 3 + 2, none⟩ = some (.bool (x.O k)) := by
  have := h.bk.at k hk
  simpa using this

/-- what slices.Index gives -/
def idxI (f : Nat → Int) (p : Int) (n : Nat) : Int := if fstA f p n < n then fstA f p n else -1
theorem index_any (b off n c : Nat) (f : Nat → Int) (p : Int) (w : World) (hn : n ≤ 1000000000000) (hc : IC w b off n f) :
    Calls Tryz.prog 162 #[.slice (some ⟨b, off, none⟩) n c, .int .i64 p] w fun e w' => e = .returned (.int .i64 (idxI f p n)) ∧ w = w' := by
  go_enter Tryz.func162, Tryz.ntmps162
  go_wp2_with fail
  go_loop [5, 8] (fun _ i => ∃ k : Nat, k ≤ n ∧ i = .int .i64 k ∧ Hid (∀ j, j < k → f j ≠ p)) (fun _ i => n - (intOf i).toNat)
  case atStart => exact ⟨0, Nat.zero_le _, rfl, Lib.hid (fun j hj => by omega)⟩
  case round =>
    obtain ⟨k, hk, rfl, HA⟩ := hrel
    by_cases hlt : k < n
    · have hck := hc.at k hlt
      by_cases h1 : f k = p
      · have HE : Hid (idxI f p n = k) := by show _ = _; unfold idxI; rw [fstA_stop f p HA.out h1 n hlt, if_pos hlt]
        have h2 : (p == f k) = true := by simp [h1]
        clear h1
        go_wp2_with fail
        go_ret
        exact ⟨retI HE.out.symm, rfl⟩
      · have HE : Hid (∀ j, j < k + 1 → f j ≠ p) := fun j hj => by
          by_cases e : j = k
          · rw [e]; exact h1
          · exact HA.out j (by omega)
        have h2 : (p == f k) = false := by simp; exact fun e => h1 e.symm
        clear h1
        go_wp2_with fail
        go_round
        case rel => exact ⟨k + 1, by omega, by go_num, HE⟩
        case measure => simp [intOf]; omega
    · obtain rfl : k = n := by omega
      have HE : Hid (idxI f p k = -1) := by show _ = _; unfold idxI; rw [fstA_none f p k HA.out, if_neg (Nat.lt_irrefl _)]
      go_wp2_with fail
      go_ret
      exact ⟨retI HE.out.symm, rfl⟩

/-- how many of the first m stand at a place or before it -/
def leA (f : Nat → Int) (p : Int) : Nat → Nat
  | 0 => 0
  | m + 1 => leA f p m + if f m ≤ p then 1 else 0
/-- the moves that the first k sections still need -/
def lefS (x : Ln) : Nat → Int
  | 0 => 0
  | k + 1 => lefS x k + lefV (x.N k) (x.I k) (x.O k) (leA x.T (2 * k) x.m)
end Go.Proofs.YtlkdmpfifpkpaaaGreatDoor
