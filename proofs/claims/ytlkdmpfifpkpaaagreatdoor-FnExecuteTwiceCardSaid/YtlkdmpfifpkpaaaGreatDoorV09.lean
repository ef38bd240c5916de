/-
  Parts of the proof: Jf Jg Jh Jj. No condition.
-/
import Derived.Lib.SplitLaws
import Derived.Test.YtlkdmpfifpkpaaaGreatDoorV08
namespace Go.Proofs.YtlkdmpfifpkpaaaGreatDoor
open Go.RowKit
def Kp (B : Nat) (w w' : World) : Prop := ∀ b, B ≤ b → b < w.heap.size → w'.heap[b]? = w.heap[b]?
theorem Bx.kp {w w' : World} {b B : Nat} {t : TypeId} {cs : Array Value} (h : Bx w b t cs) (hk : Kp B w w') (hb : B ≤ b) : Bx w' b t cs := h.of_block (hk b hb h.lt)
theorem cr0 (a : Array Value) (w : World) : Sem.run Tryz.prog (callFunc 96 a) w = .ok (.enter 96 a) w := by kernel_rfl
theorem cr1 (a : Array Value) (w : World) : Sem.run Tryz.prog (callFunc 97 a) w = .ok (.enter 97 a) w := by kernel_rfl
theorem cr2 (a : Array Value) (w : World) : Sem.run Tryz.prog (callFunc 98 a) w = .ok (.enter 98 a) w := by kernel_rfl
theorem cr3 (a : Array Value) (w : World) : Sem.run Tryz.prog (callFunc 99 a) w = .ok (.enter 99 a) w := by kernel_rfl
theorem cr4 (a : Array Value) (w : World) : Sem.run Tryz.prog (callFunc 100 a) w = .ok (.enter 100 a) w := by kernel_rfl
theorem cr5 (a : Array Value) (w : World) : Sem.run Tryz.prog (callFunc 101 a) w = .ok (.enter 101 a) w := by kernel_rfl
theorem cr6 (a : Array Value) (w : World) : Sem.run Tryz.prog (callFunc 102 a) w = .ok (.enter 102 a) w := by kernel_rfl
theorem cr7 (a : Array Value) (w : World) : Sem.run Tryz.prog (callFunc 103 a) w = .ok (.enter 103 a) w := by kernel_rfl
theorem cr8 (a : Array Value) (w : World) : Sem.run Tryz.prog (callFunc 104 a) w = .ok (.enter 104 a) w := by kernel_rfl
theorem cmF_run {k : Nat} (h : k < 9) (a : Array Value) (w : World) : Sem.run Tryz.prog (callFunc (cmF k) a) w = .ok (.enter (cmF k) a) w := by
 match k, h with
 | 0, _ => exact cr0 a w
 | 1, _ => exact cr1 a w
 | 2, _ => exact cr2 a w
 | 3, _ => exact cr3 a w
 | 4, _ => exact cr4 a w
 | 5, _ => exact cr5 a w
 | 6, _ => exact cr6 a w
 | 7, _ => exact cr7 a w
 | 8, _ => exact cr8 a w
set_option maxRecDepth 100000 in
set_option maxHeartbeats 4000000 in
set_option linter.unusedSimpArgs false in
theorem do_some (s bw ow n c k : Nat) (w0 : ByteArray) (R : ByteArray → World → Prop) (w : World) (hn : 0 < n) (hn2 : n ≤ 1000000) (h0 : w.cell? ⟨bw, ow, none⟩ = some (.string w0)) (hk : k < 9) (hix : ixC w0 = k) (hmn : cmN k < 0 ∨ cmN k = n)
    (HC : ∀ W, Below w.heap.size w W → Calls Tryz.prog (cmF k) #[.pointer (some ⟨s, 0, none⟩), .slice (some ⟨bw, ow, none⟩) n c] W fun e w' => ∃ t, e = .returned (.string t) ∧ Kp w.heap.size W w' ∧ R t w') :
    Calls Tryz.prog 57 #[.pointer (some ⟨s, 0, none⟩), .slice (some ⟨bw, ow, none⟩) n c] w fun e w' => ∃ t, e = .returned (.string t) ∧ R t w' := by
  have hbw : bw < w.heap.size := World.block_lt_of_cell? w ⟨bw, ow, none⟩ h0
  have H0 := Lib.hid h0
  have HCC := Lib.hid HC
  have hmf : ∀ (fn : Fn) (first cap : Array Value) (w : World), (Instr.makeFunc fn first cap).run Tryz.prog w = .ok (.func fn first cap) w := fun _ _ _ _ => rfl
  have HX0 : Hid (Bx (w.alloc (.cells #[.slice (some ⟨bw, ow, none⟩) n c] 60)) w.heap.size 60 #[.slice (some ⟨bw, ow, none⟩) n c]) := Bx.new _ _ _
  have HB0 : Hid (Below w.heap.size w (w.alloc (.cells #[.slice (some ⟨bw, ow, none⟩) n c] 60))) := below_all _ _
  clear h0 HC
  go_enter Tryz.func57, Tryz.ntmps57
  go_wp2_with fail
  generalize w.alloc (.cells #[.slice (some ⟨bw, ow, none⟩) n c] 60) = w1 at *
  refine (commands_any w1).mono ?_
  rintro e w2 ⟨rfl, rfl⟩
  have HT : Hid (Bx (w1.alloc (.cells cmC 119)) w1.heap.size 119 cmC) := Bx.new _ _ _
  have HX1 : Hid (Bx (w1.alloc (.cells cmC 119)) w.heap.size 60 #[.slice (some ⟨bw, ow, none⟩) n c]) := HX0.out.alloc _
  have HB1 : Hid (Below w.heap.size w (w1.alloc (.cells cmC 119))) := HB0.out.alloc HB0.out.size _
  have hz1 := HB0.out.size
  go_wp2_with fail
  refine (indexFunc_any w1.heap.size w.heap.size bw ow n c w0 (w1.alloc (.cells cmC 119)) hn HT.out HX1.out (by rw [HB1.out.cell (p := ⟨bw, ow, none⟩) hbw]; exact H0.out)).mono ?_
  rintro e w3 ⟨rfl, hb3⟩
  have HT3 := Lib.hid (HT.out.below hb3 HT.out.lt)
  have HX3 := Lib.hid (HX1.out.below hb3 HX1.out.lt)
  have HB3 := Lib.hid (HB1.out.trans (hb3.mono HB1.out.size))
  have hz3 := HB3.out.size
  have HIR : Hid (ixR w0 = k) := by show _ = _; unfold ixR; rw [hix, if_pos hk]
  rw [HIR.out]
  clear hb3 HT HX1 HB1 HX0 HB0
  obtain ⟨_, c1, c2⟩ := cmC_at hk
  have HCL : Hid (∀ W, Bx W w1.heap.size 119 cmC → Bx W w.heap.size 60 #[.slice (some ⟨bw, ow, none⟩) n c] → (W.cell? ⟨w1.heap.size, k * 3 + 1, none⟩ = some (.int .i64 (cmN k)) ∧ W.cell? ⟨w1.heap.size, k * 3 + 2, none⟩ = some (.func (.func (cmF k)) #[] #[])) ∧ W.cell? ⟨w.heap.size, 0, none⟩ = some (.slice (some ⟨bw, ow, none⟩) n c)) := fun W g1 g2 =>
   ⟨⟨(g1.cell (k * 3 + 1)).trans c1, (g1.cell (k * 3 + 2)).trans c2⟩, g2.cell 0⟩
  clear c1 c2
  have HF := cmF_run hk
  generalize cmN k = nk at *
  generalize cmF k = f at *
  have hk0 : ¬ (k : Int) < 0 := by omega
  have hk9 : (k : Int) < 9 := by omega
  have hkd : decide ((k : Int) < 0) = false := decide_eq_false hk0
  have HBd : Hid (Below w3.heap.size w3 w3.drew) := (Below.refl _ _).drew
  rcases hmn with hneg | heq
  ·have hg1 : decide (0 ≤ nk) = false := decide_eq_false (by omega)
   go_wp2_with fail
   refine wp_region_held_drew (S := fun W => (W.cell? ⟨w1.heap.size, k * 3 + 1, none⟩ = some (.int .i64 nk) ∧ W.cell? ⟨w1.heap.size, k * 3 + 2, none⟩ = some (.func (.func f) #[] #[])) ∧ W.cell? ⟨w.heap.size, 0, none⟩ = some (.slice (some ⟨bw, ow, none⟩) n c)) (by kernel_rfl) (HCL.out _ (HT3.out.below HBd.out HT3.out.lt) (HX3.out.below HBd.out HX3.out.lt)) (fun hHeld => ?_)
   refine tkR 0 ?_
   refine tkR 1 ?_
   refine tkR 2 ?_
   refine tkR 3 ?_
   refine tkR 4 ?_
   refine tkR 5 ?_
   refine tkR 6 ?_
   refine tkR 7 ?_
   refine tkR 8 ?_
   refine tkR 9 ?_
   refine tkR 10 ?_
   refine tkR 11 ?_
   refine tkR 12 ?_
   refine tkR 13 ?_
   refine tkR 14 ?_
   refine tkR 15 ?_
   refine tkR 16 ?_
   refine tkR 17 ?_
   refine tkR 18 ?_
   refine tkR 19 ?_
   refine wpAnyH_done (by kernel_rfl) ?_ _
   clear hHeld
   go_wp2_with fail
   have HB4 : Hid (Below w3.heap.size w3 w3.drew.drew) := (Below.refl _ _).drew.drew
   have HT4 := Lib.hid (HT3.out.below HB4.out HT3.out.lt)
   have HX4 := Lib.hid (HX3.out.below HB4.out HX3.out.lt)
   refine wp_region_held_drew (S := fun W => (W.cell? ⟨w1.heap.size, k * 3 + 1, none⟩ = some (.int .i64 nk) ∧ W.cell? ⟨w1.heap.size, k * 3 + 2, none⟩ = some (.func (.func f) #[] #[])) ∧ W.cell? ⟨w.heap.size, 0, none⟩ = some (.slice (some ⟨bw, ow, none⟩) n c)) (by kernel_rfl) (HCL.out _ HT4.out HX4.out) (fun hHeld => ?_)
   refine tkR 0 ?_
   refine tkR 1 ?_
   refine tkR 2 ?_
   refine tkR 3 ?_
   refine tkR 4 ?_
   refine tkR 5 ?_
   refine tkR 6 ?_
   refine r1R 7 (fun K hK => ?_)
   go_simp
   go_must (refine Calls.mono (HCC.out _ HB3.out.drew.drew) ?_)
   rintro e w5 ⟨t, rfl, hkp, hR⟩
   have HT5 := Lib.hid (HT4.out.kp hkp hz1)
   have HX5 := Lib.hid (HX4.out.kp hkp (Nat.le_refl _))
   have HR := Lib.hid hR
   clear hkp hR
   refine oR hK ?_ (fun hHeld => ?_)
   ·try dsimp only
    exact HCL.out _ HT5.out HX5.out
   clear hK K
   refine tkR 8 ?_
   refine wpAnyH_done (by kernel_rfl) ?_ _
   go_wp2_with fail
   go_ret
   exact ⟨t, rfl, HR.out⟩
  ·have hg1 : decide (0 ≤ nk) = true := decide_eq_true (by omega)
   have hg2 : (nk != (n : Int)) = false := by rw [heq]; simp
   have hg3 : (nk == (n : Int)) = true := beq_iff_eq.2 heq
   clear heq
   go_wp2_with fail
   refine wp_region_held_drew (S := fun W => (W.cell? ⟨w1.heap.size, k * 3 + 1, none⟩ = some (.int .i64 nk) ∧ W.cell? ⟨w1.heap.size, k * 3 + 2, none⟩ = some (.func (.func f) #[] #[])) ∧ W.cell? ⟨w.heap.size, 0, none⟩ = some (.slice (some ⟨bw, ow, none⟩) n c)) (by kernel_rfl) (HCL.out _ (HT3.out.below HBd.out HT3.out.lt) (HX3.out.below HBd.out HX3.out.lt)) (fun hHeld => ?_)
   refine tkR 0 ?_
   refine tkR 1 ?_
   refine tkR 2 ?_
   refine tkR 3 ?_
   refine tkR 4 ?_
   refine tkR 5 ?_
   refine tkR 6 ?_
   refine tkR 7 ?_
   refine tkR 8 ?_
   refine tkR 9 ?_
   refine tkR 10 ?_
   refine tkR 11 ?_
   refine tkR 12 ?_
   refine tkR 13 ?_
   refine tkR 14 ?_
   refine tkR 15 ?_
   refine tkR 16 ?_
   refine tkR 17 ?_
   refine tkR 18 ?_
   refine tkR 19 ?_
   refine wpAnyH_done (by kernel_rfl) ?_ _
   clear hHeld
   go_wp2_with fail
   have HB4 : Hid (Below w3.heap.size w3 w3.drew.drew) := (Below.refl _ _).drew.drew
   have HT4 := Lib.hid (HT3.out.below HB4.out HT3.out.lt)
   have HX4 := Lib.hid (HX3.out.below HB4.out HX3.out.lt)
   refine wp_region_held_drew (S := fun W => (W.cell? ⟨w1.heap.size, k * 3 + 1, none⟩ = some (.int .i64 nk) ∧ W.cell? ⟨w1.heap.size, k * 3 + 2, none⟩ = some (.func (.func f) #[] #[])) ∧ W.cell? ⟨w.heap.size, 0, none⟩ = some (.slice (some ⟨bw, ow, none⟩) n c)) (by kernel_rfl) (HCL.out _ HT4.out HX4.out) (fun hHeld => ?_)
   refine tkR 0 ?_
   refine tkR 1 ?_
   refine tkR 2 ?_
   refine tkR 3 ?_
   refine tkR 4 ?_
   refine tkR 5 ?_
   refine tkR 6 ?_
   refine r1R 7 (fun K hK => ?_)
   go_simp
   go_must (refine Calls.mono (HCC.out _ HB3.out.drew.drew) ?_)
   rintro e w5 ⟨t, rfl, hkp, hR⟩
   have HT5 := Lib.hid (HT4.out.kp hkp hz1)
   have HX5 := Lib.hid (HX4.out.kp hkp (Nat.le_refl _))
   have HR := Lib.hid hR
   clear hkp hR
   refine oR hK ?_ (fun hHeld => ?_)
   ·try dsimp only
    exact HCL.out _ HT5.out HX5.out
   clear hK K
   refine tkR 8 ?_
   refine wpAnyH_done (by kernel_rfl) ?_ _
   go_wp2_with fail
   go_ret
   exact ⟨t, rfl, HR.out⟩
def cmdK (w0 : ByteArray) (n : Nat) : Nat := if ixC w0 < 9 ∧ (cmN (ixC w0) < 0 ∨ cmN (ixC w0) = n) then ixC w0 else 9
theorem cmdK_some {w0 : ByteArray} {n k : Nat} (h : cmdK w0 n = k) (hk : k < 9) : ixC w0 = k ∧ (cmN k < 0 ∨ cmN k = n) := by
 unfold cmdK at h
 split at h
 ·rename_i h2
  subst h
  exact ⟨rfl, h2.2⟩
 ·omega
theorem cmdK_none {w0 : ByteArray} {n : Nat} (h : cmdK w0 n = 9) : ixR w0 = -1 ∨ ∃ k : Nat, k < 9 ∧ ixR w0 = (k : Int) ∧ 0 ≤ cmN k ∧ cmN k ≠ (n : Int) := by
 unfold cmdK at h
 by_cases h9 : ixC w0 < 9
 ·right
  refine ⟨ixC w0, h9, by unfold ixR; rw [if_pos h9], ?_, fun e => ?_⟩
  ·rcases Int.lt_or_le (cmN (ixC w0)) 0 with q | q
   ·rw [if_pos ⟨h9, .inl q⟩] at h; omega
   ·exact q
  ·rw [if_pos ⟨h9, .inr e⟩] at h; omega
 ·left
  unfold ixR
  rw [if_neg h9]
set_option maxRecDepth 100000 in
set_option maxHeartbeats 4000000 in
set_option linter.unusedSimpArgs false in
theorem do_none (s bw ow n c : Nat) (w0 : ByteArray) (w : World) (hn : 0 < n) (h0 : w.cell? ⟨bw, ow, none⟩ = some (.string w0)) (hix : cmdK w0 n = 9) :
    Calls Tryz.prog 57 #[.pointer (some ⟨s, 0, none⟩), .slice (some ⟨bw, ow, none⟩) n c] w fun e w' => e = .panicked [{ v := .iface 87 (.agg #[]), recovered := false }] ∧ Below w.heap.size w w' := by
  have hbw : bw < w.heap.size := World.block_lt_of_cell? w ⟨bw, ow, none⟩ h0
  have H0 := Lib.hid h0
  have hmf : ∀ (fn : Fn) (first cap : Array Value) (w : World), (Instr.makeFunc fn first cap).run Tryz.prog w = .ok (.func fn first cap) w := fun _ _ _ _ => rfl
  have HX0 : Hid (Bx (w.alloc (.cells #[.slice (some ⟨bw, ow, none⟩) n c] 60)) w.heap.size 60 #[.slice (some ⟨bw, ow, none⟩) n c]) := Bx.new _ _ _
  have HB0 : Hid (Below w.heap.size w (w.alloc (.cells #[.slice (some ⟨bw, ow, none⟩) n c] 60))) := below_all _ _
  clear h0
  go_enter Tryz.func57, Tryz.ntmps57
  go_wp2_with fail
  generalize w.alloc (.cells #[.slice (some ⟨bw, ow, none⟩) n c] 60) = w1 at *
  refine (commands_any w1).mono ?_
  rintro e w2 ⟨rfl, rfl⟩
  have HT : Hid (Bx (w1.alloc (.cells cmC 119)) w1.heap.size 119 cmC) := Bx.new _ _ _
  have HX1 : Hid (Bx (w1.alloc (.cells cmC 119)) w.heap.size 60 #[.slice (some ⟨bw, ow, none⟩) n c]) := HX0.out.alloc _
  have HB1 : Hid (Below w.heap.size w (w1.alloc (.cells cmC 119))) := HB0.out.alloc HB0.out.size _
  have hz1 := HB0.out.size
  go_wp2_with fail
  refine (indexFunc_any w1.heap.size w.heap.size bw ow n c w0 (w1.alloc (.cells cmC 119)) hn HT.out HX1.out (by rw [HB1.out.cell (p := ⟨bw, ow, none⟩) hbw]; exact H0.out)).mono ?_
  rintro e w3 ⟨rfl, hb3⟩
  have HT3 := Lib.hid (HT.out.below hb3 HT.out.lt)
  have HX3 := Lib.hid (HX1.out.below hb3 HX1.out.lt)
  have HB3 := Lib.hid (HB1.out.trans (hb3.mono HB1.out.size))
  have hz3 := HB3.out.size
  clear hb3 HT HX1 HB1 HX0 HB0
  have HBd : Hid (Below w3.heap.size w3 w3.drew) := (Below.refl _ _).drew
  rcases cmdK_none hix with hr | ⟨k, hk, hr, hn0, hne⟩
  ·rw [hr]
   clear hr hix
   go_wp2_with fail
   refine wp_region_held_drew (S := fun W => W.cell? ⟨w.heap.size, 0, none⟩ = some (.slice (some ⟨bw, ow, none⟩) n c)) (by kernel_rfl) ((HX3.out.below HBd.out HX3.out.lt).cell 0) (fun hHeld => ?_)
   refine tkR 0 ?_
   refine tkR 1 ?_
   refine tkR 2 ?_
   refine tkR 3 ?_
   refine tkR 4 ?_
   refine tkR 5 ?_
   refine tkR 6 ?_
   refine tkR 7 ?_
   refine tkR 8 ?_
   refine tkR 9 ?_
   refine tkR 10 ?_
   refine tkR 11 ?_
   refine tkR 12 ?_
   refine tkR 13 ?_
   refine tkR 14 ?_
   refine tkR 15 ?_
   refine tkR 16 ?_
   refine tkR 17 ?_
   refine tkR 18 ?_
   refine tkR 19 ?_
   refine wpAnyH_done (by kernel_rfl) ?_ _
   clear hHeld
   go_wp2_with fail
   exact ⟨rfl, rfl, HB3.out.drew⟩
  ·rw [hr]
   clear hr hix
   obtain ⟨_, c1, _⟩ := cmC_at hk
   have HCL : Hid (∀ W, Bx W w1.heap.size 119 cmC → Bx W w.heap.size 60 #[.slice (some ⟨bw, ow, none⟩) n c] → W.cell? ⟨w1.heap.size, k * 3 + 1, none⟩ = some (.int .i64 (cmN k)) ∧ W.cell? ⟨w.heap.size, 0, none⟩ = some (.slice (some ⟨bw, ow, none⟩) n c)) := fun W g1 g2 => ⟨(g1.cell (k * 3 + 1)).trans c1, g2.cell 0⟩
   clear c1
   generalize cmN k = nk at *
   have hkd : decide ((k : Int) < 0) = false := decide_eq_false (by omega)
   have hk9 : (k : Int) < 9 := by omega
   have hg1 : decide (0 ≤ nk) = true := decide_eq_true hn0
   have hg3 : (nk == (n : Int)) = false := beq_eq_false_iff_ne.2 hne
   clear hne
   go_wp2_with fail
   refine wp_region_held_drew (S := fun W => W.cell? ⟨w1.heap.size, k * 3 + 1, none⟩ = some (.int .i64 nk) ∧ W.cell? ⟨w.heap.size, 0, none⟩ = some (.slice (some ⟨bw, ow, none⟩) n c)) (by kernel_rfl) (HCL.out _ (HT3.out.below HBd.out HT3.out.lt) (HX3.out.below HBd.out HX3.out.lt)) (fun hHeld => ?_)
   refine tkR 0 ?_
   refine tkR 1 ?_
   refine tkR 2 ?_
   refine tkR 3 ?_
   refine tkR 4 ?_
   refine tkR 5 ?_
   refine tkR 6 ?_
   refine tkR 7 ?_
   refine tkR 8 ?_
   refine tkR 9 ?_
   refine tkR 10 ?_
   refine tkR 11 ?_
   refine tkR 12 ?_
   refine tkR 13 ?_
   refine tkR 14 ?_
   refine tkR 15 ?_
   refine tkR 16 ?_
   refine tkR 17 ?_
   refine tkR 18 ?_
   refine tkR 19 ?_
   refine wpAnyH_done (by kernel_rfl) ?_ _
   clear hHeld
   go_wp2_with fail
   exact ⟨rfl, rfl, HB3.out.drew⟩
def wdL (t : ByteArray) : List ByteArray := Lib.splitB ⟨#[32]⟩ 0 (Lib.countB t ⟨#[32]⟩) t
def wd0 (t : ByteArray) : ByteArray := ((wdL t)[0]?).getD ⟨#[]⟩
theorem wdL_len (t : ByteArray) : (wdL t).length = Lib.countB t ⟨#[32]⟩ + 1 := Lib.splitB_all ⟨#[32]⟩ (by decide) 0 _ t rfl
theorem wdL_le (t : ByteArray) : (wdL t).length ≤ t.size + 1 := by
 have := Lib.countB_le ⟨#[32]⟩ (by decide) t.size t (Nat.le_refl _)
 rw [wdL_len]
 omega
theorem wd_cell (t : ByteArray) (w : World) {i : Nat} (h : i < (wdL t).length) : (w.alloc (.cells ((wdL t).map Value.string).toArray 9)).cell? ⟨w.heap.size, i, none⟩ = some (.string (((wdL t)[i]?).getD ⟨#[]⟩)) := by
 have hh : (w.alloc (.cells ((wdL t).map Value.string).toArray 9)).heap[w.heap.size]? = some (.cells ((wdL t).map Value.string).toArray 9 (0, 0)) := heap_alloc_new _ _
 simp only [World.cell?, hh]
 simp [h]
set_option maxRecDepth 100000 in
set_option maxHeartbeats 2000000 in
set_option linter.unusedSimpArgs false in
theorem answer_none (s : Nat) (t : ByteArray) (m : Int) (w : World) (ht : t.size ≤ 1000) (hm : w.cell? ⟨0, 0, none⟩ = some (.int .i64 m)) (hc : cmdK (wd0 t) (wdL t).length = 9) :
    Calls Tryz.prog 37 #[.pointer (some ⟨s, 0, none⟩), .string t] w fun e w' => e = .returned (.string whatT) ∧ Below w.heap.size w w' := by
  have hmf : ∀ (fn : Fn) (first cap : Array Value) (w : World), (Instr.makeFunc fn first cap).run Tryz.prog w = .ok (.func fn first cap) w := fun _ _ _ _ => rfl
  have H00 : 0 < w.heap.size := World.block_lt_of_cell? w ⟨0, 0, none⟩ hm
  have HX0 : Hid (Bx (w.alloc (.cells #[.string ⟨#[]⟩] 9)) w.heap.size 9 #[.string ⟨#[]⟩]) := Bx.new _ _ _
  have HB0 : Hid (Below w.heap.size w (w.alloc (.cells #[.string ⟨#[]⟩] 9))) := below_all _ _
  have HSP : Hid (∀ W, Below w.heap.size w W → Calls Tryz.prog 35 #[.string t, .string ⟨#[32]⟩] W fun e w' => e = .returned (.slice (some ⟨W.heap.size, 0, none⟩) (wdL t).length (wdL t).length) ∧ w' = W.alloc (.cells ((wdL t).map Value.string).toArray 9)) := fun W h => by
   have q := Tryz.strings_Split t ⟨#[32]⟩ m W (by omega) (by rw [h.cell (p := ⟨0, 0, none⟩) H00]; exact hm) (by decide)
   rw [← wdL_len] at q
   exact q
  have HLP : Hid (0 < (wdL t).length) := by show _ < _; rw [wdL_len]; omega
  have HC0 : Hid (∀ W : World, (W.alloc (.cells ((wdL t).map Value.string).toArray 9)).cell? ⟨W.heap.size, 0, none⟩ = some (.string (wd0 t))) := fun W => wd_cell t W HLP.out
  have HCM := Lib.hid hc
  clear hc
  generalize (wdL t).map Value.string = ws at *
  generalize (wdL t).length = n at *
  generalize wd0 t = w0 at *
  go_enter_defers Tryz.func37, Tryz.ntmps37
  go_wp2_with fail
  refine (HSP.out _ HB0.out).mono ?_
  rintro e w1 ⟨rfl, rfl⟩
  generalize w.alloc (.cells #[.string ⟨#[]⟩] 9) = wa at *
  have HX1 := Lib.hid (HX0.out.alloc (.cells ws.toArray 9))
  have HB1 := Lib.hid (HB0.out.alloc HB0.out.size (.cells ws.toArray 9))
  have hd := do_none s wa.heap.size 0 n n w0 _ HLP.out (HC0.out wa) HCM.out
  have HD := Lib.hid hd
  clear hd
  generalize wa.alloc (.cells ws.toArray 9) = wb at *
  go_wp2_with fail
  refine HD.out.mono ?_
  rintro e w2 ⟨rfl, hb2⟩
  have HX2 := Lib.hid (HX1.out.below hb2 HX1.out.lt)
  have HB2 := Lib.hid (HB1.out.trans (hb2.mono HB1.out.size))
  clear hb2 HD
  refine leaves_cons (f := 56) (args := #[.pointer (some ⟨w.heap.size, 0, none⟩)]) (by simp) (by simp [go_sem]) ?_
  refine (catch_panic w.heap.size ⟨#[]⟩ [] _ HX2.out).mono ?_
  rintro e u' w'' ⟨rfl, rfl, rfl⟩
  have HB3 := Lib.hid ((HB2.out.setCell (p := ⟨w.heap.size, 0, none⟩) (Nat.le_refl _) (.string whatT)).alloc (by simpa using HB2.out.size) (.cells #[] 87))
  have HX3 := Lib.hid ((HX2.out.set 0 (.string whatT)).alloc (.cells #[] 87))
  generalize (w2.setCell ⟨w.heap.size, 0, none⟩ (.string whatT)).alloc (.cells #[] 87) = w3 at *
  have hxc : w3.cell? ⟨w.heap.size, 0, none⟩ = some (.string whatT) := HX3.out.cell 0
  simp [Leaves, settle, results, Tryz.results37, go_sem, hxc]
  exact HB3.out
theorem Kp.mono {B C : Nat} {w w' : World} (h : Kp B w w') (hc : B ≤ C) : Kp C w w' := fun b h1 h2 => h b (Nat.le_trans hc h1) h2
def wdI (t : ByteArray) (i : Nat) : ByteArray := ((wdL t)[i]?).getD ⟨#[]⟩
set_option maxRecDepth 100000 in
set_option maxHeartbeats 2000000 in
set_option linter.unusedSimpArgs false in
theorem answer_some (s k : Nat) (t : ByteArray) (m : Int) (R : ByteArray → World → Prop) (w : World) (ht : t.size ≤ 1000) (hm : w.cell? ⟨0, 0, none⟩ = some (.int .i64 m)) (hc : cmdK (wd0 t) (wdL t).length = k) (hk : k < 9)
    (HC : ∀ W bw, Below w.heap.size w W → w.heap.size ≤ bw → bw < W.heap.size → (∀ i, i < (wdL t).length → W.cell? ⟨bw, i, none⟩ = some (.string (wdI t i))) → Calls Tryz.prog (cmF k) #[.pointer (some ⟨s, 0, none⟩), .slice (some ⟨bw, 0, none⟩) (wdL t).length (wdL t).length] W fun e w' => ∃ o, e = .returned (.string o) ∧ Kp w.heap.size W w' ∧ R o w') :
    Calls Tryz.prog 37 #[.pointer (some ⟨s, 0, none⟩), .string t] w fun e w' => ∃ o w2, e = .returned (.string o) ∧ R o w2 ∧ w.heap.size < w2.heap.size ∧ w' = w2.setCell ⟨w.heap.size, 0, none⟩ (.string o) := by
  have hmf : ∀ (fn : Fn) (first cap : Array Value) (w : World), (Instr.makeFunc fn first cap).run Tryz.prog w = .ok (.func fn first cap) w := fun _ _ _ _ => rfl
  have H00 : 0 < w.heap.size := World.block_lt_of_cell? w ⟨0, 0, none⟩ hm
  have HX0 : Hid (Bx (w.alloc (.cells #[.string ⟨#[]⟩] 9)) w.heap.size 9 #[.string ⟨#[]⟩]) := Bx.new _ _ _
  have HB0 : Hid (Below w.heap.size w (w.alloc (.cells #[.string ⟨#[]⟩] 9))) := below_all _ _
  have HSP : Hid (∀ W, Below w.heap.size w W → Calls Tryz.prog 35 #[.string t, .string ⟨#[32]⟩] W fun e w' => e = .returned (.slice (some ⟨W.heap.size, 0, none⟩) (wdL t).length (wdL t).length) ∧ w' = W.alloc (.cells ((wdL t).map Value.string).toArray 9)) := fun W h => by
   have q := Tryz.strings_Split t ⟨#[32]⟩ m W (by omega) (by rw [h.cell (p := ⟨0, 0, none⟩) H00]; exact hm) (by decide)
   rw [← wdL_len] at q
   exact q
  have HLP : Hid (0 < (wdL t).length) := by show _ < _; rw [wdL_len]; omega
  have hle := wdL_le t
  have HWC : Hid (∀ W : World, ∀ i, i < (wdL t).length → (W.alloc (.cells ((wdL t).map Value.string).toArray 9)).cell? ⟨W.heap.size, i, none⟩ = some (.string (wdI t i))) := fun W i hi => wd_cell t W hi
  have HW0 : Hid (wdI t 0 = wd0 t) := rfl
  obtain ⟨hk1, hk2⟩ := cmdK_some hc hk
  have HK1 := Lib.hid hk1
  have HK2 := Lib.hid hk2
  have HCC := Lib.hid HC
  clear hc hk1 hk2 HC
  generalize (wdL t).map Value.string = ws at *
  generalize (wdL t).length = n at *
  go_enter_defers Tryz.func37, Tryz.ntmps37
  go_wp2_with fail
  refine (HSP.out _ HB0.out).mono ?_
  rintro e w1 ⟨rfl, rfl⟩
  have hza : w.heap.size < (w.alloc (.cells #[.string ⟨#[]⟩] 9)).heap.size := by simp
  generalize w.alloc (.cells #[.string ⟨#[]⟩] 9) = wa at *
  have HX1 := Lib.hid (HX0.out.alloc (.cells ws.toArray 9))
  have HB1 := Lib.hid (HB0.out.alloc HB0.out.size (.cells ws.toArray 9))
  have HWB := Lib.hid (HWC.out wa)
  have hzb : wa.heap.size < (wa.alloc (.cells ws.toArray 9)).heap.size := by simp
  generalize wa.alloc (.cells ws.toArray 9) = wb at *
  have HD : Hid (Calls Tryz.prog 57 #[.pointer (some ⟨s, 0, none⟩), .slice (some ⟨wa.heap.size, 0, none⟩) n n] wb fun e w' => ∃ o, e = .returned (.string o) ∧ R o w' ∧ Bx w' w.heap.size 9 #[.string ⟨#[]⟩]) := by
   refine do_some s wa.heap.size 0 n n k (wd0 t) (fun o w' => R o w' ∧ Bx w' w.heap.size 9 #[.string ⟨#[]⟩]) wb HLP.out (by omega) (by rw [HWB.out 0 HLP.out, HW0.out]) hk HK1.out HK2.out (fun W hW => ?_)
   refine (HCC.out W wa.heap.size (HB1.out.trans (hW.mono HB1.out.size)) (by omega) (by have := hW.size; omega) (fun i hi => ?_)).mono ?_
   ·rw [hW.cell (p := ⟨wa.heap.size, i, none⟩) hzb]
    exact HWB.out i hi
   ·rintro e w' ⟨o, rfl, hkp, hR⟩
    exact ⟨o, rfl, hkp.mono (by omega), hR, (HX1.out.below hW HX1.out.lt).kp hkp (Nat.le_refl _)⟩
  go_wp2_with fail
  refine HD.out.mono ?_
  rintro e w2 ⟨o, rfl, hR, hX⟩
  have HR := Lib.hid hR
  have HX2 := Lib.hid hX
  have hxc := hX.cell
  have hxf := hX.free
  have hxl := hX.lt
  clear hR hX HD
  go_wp2_with fail
  refine leaves_cons (f := 56) (args := #[.pointer (some ⟨w.heap.size, 0, none⟩)]) (by simp) (by simp [go_sem]) ?_
  refine (catch_idle w.heap.size _).mono ?_
  rintro e u' w'' ⟨rfl, rfl, rfl⟩
  have HX3 := Lib.hid (HX2.out.set 0 (.string o))
  clear hxc hxf
  have hw3 : ∃ w3, w3 = w2.setCell ⟨w.heap.size, 0, none⟩ (.string o) := ⟨_, rfl⟩
  obtain ⟨w3, hw3⟩ := hw3
  rw [← hw3] at HX3 ⊢
  have hxc : w3.cell? ⟨w.heap.size, 0, none⟩ = some (.string o) := HX3.out.cell 0
  simp [Leaves, settle, results, Tryz.results37, go_sem, hxc]
  exact ⟨w2, HR.out, hxl, hw3⟩
structure Fr (S : Nat → Prop) (w w' : World) : Prop where
  os : w'.os = w.os
  tape : w'.tape = w.tape
  output : w'.output = w.output
  size : w.heap.size ≤ w'.heap.size
  block : ∀ k, k < w.heap.size → ¬ S k → w'.heap[k]? = w.heap[k]?
theorem Fr.refl (S : Nat → Prop) (w : World) : Fr S w w := ⟨rfl, rfl, rfl, Nat.le_refl _, fun _ _ _ => rfl⟩
theorem Fr.trans {S : Nat → Prop} {a b c : World} (h : Fr S a b) (k : Fr S b c) : Fr S a c :=
 ⟨k.os.trans h.os, k.tape.trans h.tape, k.output.trans h.output, Nat.le_trans h.size k.size, fun i hi hs => (k.block i (Nat.lt_of_lt_of_le hi h.size) hs).trans (h.block i hi hs)⟩
theorem Fr.mono {S T : Nat → Prop} {w w' : World} (h : Fr S w w') (hs : ∀ k, k < w.heap.size → S k → T k) : Fr T w w' :=
 ⟨h.os, h.tape, h.output, h.size, fun k hk ht => h.block k hk (fun hS => ht (hs k hk hS))⟩
theorem Fr.of_below {w w' : World} (h : Below w.heap.size w w') (S : Nat → Prop) : Fr S w w' := ⟨h.os, h.tape, h.output, h.size, fun k hk _ => h.block k hk⟩
theorem Fr.below {S : Nat → Prop} {B : Nat} {w w' : World} (h : Fr S w w') (hS : ∀ k, S k → B ≤ k) (hB : B ≤ w.heap.size) : Below B w w' := ⟨h.os, h.tape, h.output, h.size, fun k hk => h.block k (by omega) (fun q => by have := hS k q; omega)⟩
theorem Fr.set (w : World) (a : Addr) (v : Value) : Fr (fun k => k = a.block) w (w.setCell a v) :=
 ⟨rfl, rfl, rfl, by simp, fun k _ hs => Below.heap_setCell _ _ _ _ hs⟩
theorem Bx.fr {S : Nat → Prop} {w w' : World} {b : Nat} {t : TypeId} {cs : Array Value} (h : Bx w b t cs) (hf : Fr S w w') (hb : ¬ S b) : Bx w' b t cs := h.of_block (hf.block b h.lt hb)
theorem Own.fr {S : Nat → Prop} {w w' : World} {g cap n s : Nat} {t : TypeId} {f : Nat → Value} (h : Own w g cap n s t f) (hf : Fr S w w') (hb : ¬ S g) : Own w' g cap n s t f := h.of_block (hf.block g h.lt hb)
def SbS (U : Nat → Prop) (B b : Nat) (bs : List Value) (w : World) : Prop :=
 ∃ p, (p = .pointer none ∨ p = .pointer (some ⟨b, 0, none⟩)) ∧ B ≤ b ∧ U b ∧ ∃ v, w.heap[b]? = some (.cells #[p, v] 59 (0, 0)) ∧ w.ownsRow B 5 1 v bs.length bs ∧ v.ownBlock ≠ some b ∧ ∀ q, v.ownBlock = some q → U q
theorem SbS.sb {U : Nat → Prop} {B b : Nat} {bs : List Value} {w : World} (h : SbS U B b bs w) : Sb B b bs w := by
 obtain ⟨p, hp, h1, _, v, h2, h3, h4, _⟩ := h
 rcases hp with rfl | rfl
 ·exact .inl ⟨h1, v, h2, h3, h4⟩
 ·exact .inr ⟨h1, v, h2, h3, h4⟩
theorem SbS.imp {U V : Nat → Prop} {B b : Nat} {bs : List Value} {w : World} (h : SbS U B b bs w) (hv : ∀ q, q < w.heap.size → U q → V q) : SbS V B b bs w := by
 obtain ⟨p, hp, h1, hu, v, h2, h3, h4, h5⟩ := h
 have hlt : b < w.heap.size := by
  rcases Nat.lt_or_ge b w.heap.size with h' | h'
  ·exact h'
  ·simp [Array.getElem?_eq_none h'] at h2
 exact ⟨p, hp, h1, hv b hlt hu, v, h2, h3, h4, fun q hq => hv q (h3.lt q hq).2 (h5 q hq)⟩
theorem SbS.fr {U S : Nat → Prop} {B b : Nat} {bs : List Value} {w w' : World} (h : SbS U B b bs w) (hf : Fr S w w') (hd : ∀ q, U q → ¬ S q) : SbS U B b bs w' := by
 obtain ⟨p, hp, h1, hu, v, h2, h3, h4, h5⟩ := h
 have hlt : b < w.heap.size := by
  rcases Nat.lt_or_ge b w.heap.size with h' | h'
  ·exact h'
  ·simp [Array.getElem?_eq_none h'] at h2
 refine ⟨p, hp, h1, hu, v, (hf.block b hlt (hd b hu)).trans h2, ?_, h4, h5⟩
 refine ⟨h3.1, ?_⟩
 rcases h3.2 with hn | ⟨g, cap, cur, rfl, hb, hgg, rest⟩
 ·exact .inl hn
 ·refine .inr ⟨g, cap, cur, rfl, hb, ?_, rest⟩
  rw [hf.block g (Array.getElem?_eq_some_iff.1 hgg).1 (hd g (h5 g rfl))]
  exact hgg
theorem app_block {P : Program} {w w' : World} {base : Nat} {t u ty e : TypeId} {i : TypeInfo} (ht : P.underlying t = some (.slice e)) (hu : P.underlying u = some .string) (hi : P.info? e = some i) (hz : i.zero = some (.int .u8 0)) (hsize : i.size = 1) (hby : i.bytes = 1)
    {v v' : Value} {n : Nat} {xs : List Value} (hown : w.ownsRow base e 1 v n xs) (s : ByteArray) (h63 : n + s.size ≤ maxLen) (hbytes : n + s.size ≤ 140737488355328)
    (hr : (Builtin.append_ #[t, u] ty #[v, .string s]).run P w = .ok v' w') (hnil : v' = .slice none 0 0 ↔ v = .slice none 0 0 ∧ s.size = 0) : ∀ q, v'.ownBlock = some q → v.ownBlock = some q ∨ q = w.heap.size := by
  have hsmall : n + s.size ≤ 9223372036854775807 := by simp only [maxLen] at h63; omega
  have hxl : xs.length = n := by simpa using hown.1
  intro q hq
  rcases hown.2 with ⟨rfl, rfl⟩ | ⟨g, cap, cur, rfl, hbg, hg, hnc, hcm, hcs, htake⟩
  ·by_cases hm : s.size = 0
   ·rw [hnil.2 ⟨rfl, hm⟩] at hq
    cases hq
   ·have h2 := run_append_nil_string (P := P) w t u ty e i (.int .u8 0) ht hu hi hz s (by omega) (by omega) (by rw [hby]; omega)
    rw [hr] at h2
    cases h2
    right
    have : some w.heap.size = some q := hq
    cases this
    rfl
  ·by_cases hroom : n + s.size ≤ cap
   ·have hcs' : cur.size = cap := by simpa using hcs
    have h2 := Lib.run_append_room_string (P := P) w t u ty e i ht hu hi hsize g n cap cur hg s hroom (by omega)
    rw [hr] at h2
    cases h2
    exact .inl hq
   ·have holds : ∀ j u, xs[j]? = some u → w.cell? ((⟨g, 0, none⟩ : Addr).add j) = some u := hown.cells (g := g) rfl
    have h2 := Lib.run_append_grow_string (P := P) w t u ty e i (.int .u8 0) ht hu hi hz ⟨g, 0, none⟩ n cap xs (by rw [hsize]; simpa using hxl) holds s (by omega) (by omega) (by rw [hby]; exact growslice_fits (by omega) (by omega))
    rw [hr] at h2
    cases h2
    right
    have : some w.heap.size = some q := hq
    cases this
    rfl
theorem wpList_appT {P : Program} {w : World} {ops : Array Oper} {rest : List Oper} {o : Oper} {a : Act} {Q : Exit → Act → World → Prop} (hgd : o.guard = none) (sl x : Operand) (t u : TypeId)
    (ho : o.op = .call { callee := .builtin .append, args := #[sl, x], argTypes := #[t, u] })
    (base : Nat) (e : TypeId) (i : TypeInfo) (ht : P.underlying t = some (.slice e)) (hu : P.underlying u = some .string) (hi : P.info? e = some i) (hz : i.zero = some (.int .u8 0))
    (hsize : i.size = 1) (hby : i.bytes = 1)
    (v : Value) (n : Nat) (xs : List Value) (hs : a.eval sl = v) (hown : w.ownsRow base e 1 v n xs) (s : ByteArray) (hx : a.eval x = .string s)
    (h63 : n + s.size ≤ maxLen) (hbytes : n + s.size ≤ 140737488355328) (hbase : base ≤ w.heap.size)
    (h : ∀ v' w', w'.ownsRow base e 1 v' (n + s.size) (xs ++ Lib.strCells s) → w.grownBy w' v.ownBlock → (∀ q, v'.ownBlock = some q → v.ownBlock = some q ∨ q = w.heap.size) → wpList P ops Q rest (a.put o.dst v') w') : wpList P ops Q (o :: rest) a w := by
  refine wpList_plain hgd fun K hK => ?_
  obtain ⟨v', w', hr, h2, h3, h4⟩ := Lib.run_append_own_string (P := P) (w := w) base t u o.type e i ht hu hi hz hsize hby v n xs hown s h63 hbytes hbase
  have h5 := app_block ht hu hi hz hsize hby hown s h63 hbytes hr h4
  unfold Oper.wp execOp
  simp only [ho, resolve, invoke, builtin, Sem.run_bind, Sem.run_pure, Result.andThen_ok, List.map_toArray, List.map_cons, List.map_nil, hs, hx, hr]
  exact hK _ _ (h v' w' h2 h3 h5)
set_option maxRecDepth 100000 in
set_option maxHeartbeats 1000000 in
theorem copyCheckF_any (B b : Nat) (bs : List Value) (w : World) (p v : Value) (h : Sb B b bs w) (hx : Bx w b 59 #[p, v]) :
    Calls Tryz.prog 55 #[.pointer (some ⟨b, 0, none⟩)] w fun e w' => e = .returned (.tuple #[]) ∧ SbU B b bs w' ∧ Below B w w' ∧ Fr (fun k => k = b) w w' ∧ Bx w' b 59 #[.pointer (some ⟨b, 0, none⟩), v] := by
  have HXB := Lib.hid hx
  clear hx
  have hs1 : (Tryz.prog.info? 59).map (·.size) = some 2 := by kernel_rfl
  obtain ⟨j, hj, hjs⟩ := Option.map_eq_some_iff.1 hs1
  have hJ := Lib.hid hj
  have hJS := Lib.hid hjs
  have hlies : liesAt Tryz.prog Tryz.prog.depth 59 (2 / Tryz.prog.cellsOf 59) 0 59 1 = true := by kernel_rfl
  have HL := Lib.hid hlies
  clear hs1 hj hjs hlies
  rcases h with h | h
  ·have HB := Lib.hid h
   have hc := h.cell0
   have hf := h.frozen0
   have HSH := Lib.hid h.shape
   clear h
   go_enter Tryz.func55, Tryz.ntmps55
   go_wp2_with fail
   rw [Lib.run_to_unsafe (P := Tryz.prog) (w := w) ⟨b, 0, none⟩ Tryz.underlying57 Tryz.underlying112 hJ.out (by rw [hJS.out]; decide) HSH.out (Nat.zero_lt_succ 1)]
   simp only [Result.andThen]
   rw [Oper.upon_value]
   go_wp2_with fail
   rw [run_callFunc_extern Tryz.func73 (by kernel_rfl) (by kernel_rfl) (by kernel_rfl) (e := Extern.AbiNoEscape.same) (by kernel_rfl)]
   rw [Lib.run_noEscape]
   simp only [Result.andThen]
   rw [Oper.upon_value]
   go_wp2_with fail
   rw [Lib.run_from_unsafe (P := Tryz.prog) (w := w) ⟨b, 0, none⟩ Tryz.underlying112 Tryz.underlying57 hJ.out HSH.out HL.out]
   simp only [Result.andThen]
   rw [Oper.upon_value]
   go_wp2_with fail
   go_end0
   exact ⟨rfl, HB.out.used _, (Below.refl B w).setCell (p := ⟨b, 0, none⟩) HB.out.1 _, Fr.set w ⟨b, 0, none⟩ _, HXB.out.set 0 _⟩
  ·have HB := Lib.hid h
   have hc := h.cell0
   clear h
   go_enter Tryz.func55, Tryz.ntmps55
   go_wp2_with fail
   rw [Lib.run_neq_ptr_same (P := Tryz.prog) (w := w) _ Tryz.underlying57 hJ.out]
   go_wp2_with fail
   go_end0
   have hpe : p = .pointer (some ⟨b, 0, none⟩) := by
    have e1 := HXB.out.cell 0
    have e2 := HB.out.cell0
    rw [e2] at e1
    simpa using e1.symm
   exact ⟨rfl, HB.out, Below.refl B _, Fr.refl _ _, by rw [← hpe]; exact HXB.out⟩
set_option maxRecDepth 100000 in
set_option maxHeartbeats 2000000 in
theorem writeStringF_any (U : Nat → Prop) (B b : Nat) (bs : List Value) (s : ByteArray) (w : World) (h : SbS U B b bs w) (hlen : bs.length + s.size ≤ 140737488355328) (hBw : B ≤ w.heap.size) :
    Calls Tryz.prog 36 #[.pointer (some ⟨b, 0, none⟩), .string s] w fun e w' => e = .returned (.tuple #[.int .i64 s.size, .nilIface]) ∧ SbS (fun q => U q ∨ w.heap.size ≤ q) B b (bs ++ Lib.strCells s) w' ∧ Below B w w' ∧ Fr U w w' := by
  have HH := Lib.hid h.sb
  have HS := Lib.hid h
  obtain ⟨p0, _, _, hUb, v0, hv0, hown0, _, hUq⟩ := HS.out
  have hx0 : Bx w b 59 #[p0, v0] := hv0
  clear h
  obtain ⟨i0, hi, hz0, hz1, hz2⟩ := info_parts (P := Tryz.prog) (e := 5) (z := .int .u8 0) (size := 1) (bytes := 1) (by kernel_rfl)
  have HI := Lib.hid hi
  clear hi
  go_enter Tryz.func36, Tryz.ntmps36
  go_wp2_with (go_at_call 55; go_must (refine (copyCheckF_any B b bs _ p0 v0 HH.out hx0).mono ?_))
  rintro e w1 ⟨rfl, h1, hb1, hf1, hx1⟩
  obtain ⟨hB, v, hbk, hown, hne⟩ := h1
  obtain rfl : v = v0 := by
   have e1 : w1.cell? ⟨b, 1, none⟩ = some v := by rw [Lib.cell_of_heap hbk]; rfl
   have e2 : w1.cell? ⟨b, 1, none⟩ = some v0 := hx1.cell 1
   rw [e1] at e2
   exact Option.some.inj e2
  have c0 : w1.cell? ⟨b, 0, none⟩ = some (.pointer (some ⟨b, 0, none⟩)) := by rw [Lib.cell_of_heap hbk]; rfl
  have c1 : w1.cell? ⟨b, 1, none⟩ = some v := by rw [Lib.cell_of_heap hbk]; rfl
  have HBK := Lib.hid hbk
  clear hbk
  go_wp2_with (at_builtin; refine wpList_appT rfl _ _ 22 9 rfl B 5 i0 Tryz.underlying22 Tryz.underlying9 HI.out hz0 hz1 hz2 _ _ _ rfl hown s rfl ?c3 ?c4 ?c5 ?_)
  case c3 => unfold maxLen; omega
  case c4 => omega
  case c5 => have := hb1.size; omega
  intro v' w2 hown' hgrow hblk
  have hbk := HBK.out
  have hlt : b < w1.heap.size := by
   rcases Nat.lt_or_ge b w1.heap.size with h' | h'
   ·exact h'
   ·simp [Array.getElem?_eq_none h'] at hbk
  have hb2 : w2.heap[b]? = some (.cells #[.pointer (some ⟨b, 0, none⟩), v] 59 (0, 0)) := by
   rw [hgrow.block b hlt (fun e => hne e.symm)]
   exact hbk
  have d0 : w2.cell? ⟨b, 0, none⟩ = some (.pointer (some ⟨b, 0, none⟩)) := by rw [Lib.cell_of_heap hb2]; rfl
  have d1 : w2.cell? ⟨b, 1, none⟩ = some v := by rw [Lib.cell_of_heap hb2]; rfl
  have f1 : w2.frozen? ⟨b, 1, none⟩ = false := Lib.frozen_of_heap hb2 1
  obtain ⟨ao, n', cap, rfl⟩ : ∃ ao n' cap, v' = .slice ao n' cap := by
   rcases hown'.2 with ⟨hv, _⟩ | ⟨g, cap, cur, hv, _⟩
   ·exact ⟨_, _, _, hv⟩
   ·exact ⟨_, _, _, hv⟩
  have HB2 := Lib.hid hb2
  clear hb2 hbk
  go_wp2_with fail
  go_ret2
  have hb0 : b < w.heap.size := by
   rcases Nat.lt_or_ge b w.heap.size with h' | h'
   ·exact h'
   ·simp [Array.getElem?_eq_none h'] at hv0
  have hsz1 := hf1.size
  have hsz2 := hgrow.size
  refine ⟨rfl, ?_, ?_, ?_⟩
  ·obtain ⟨q1, vv, q2, q3, q4⟩ := Lib.BuilderAt.put (T := 59) (e := 5) hB HB2.out (bs' := bs ++ Lib.strCells s) (by simpa [Lib.strCells_length] using hown') (by decide)
   have hvv : vv = .slice ao n' cap := by
    have e1 : (w2.setCell ⟨b, 1, none⟩ (.slice ao n' cap)).cell? ⟨b, 1, none⟩ = some vv := by rw [Lib.cell_of_heap q2]; rfl
    have e2 : (w2.setCell ⟨b, 1, none⟩ (.slice ao n' cap)).cell? ⟨b, 1, none⟩ = some (.slice ao n' cap) := by
     have hz : Bx w2 b 59 #[.pointer (some ⟨b, 0, none⟩), v] := HB2.out
     exact (hz.set 1 (.slice ao n' cap)).cell 1
    rw [e1] at e2
    exact Option.some.inj e2
   subst hvv
   refine ⟨_, .inr rfl, q1, .inl hUb, _, q2, q3, q4, fun q hq => ?_⟩
   rcases hblk q hq with h5 | h5
   ·exact .inl (hUq q h5)
   ·right; omega
  ·exact (hb1.grown hgrow (by have := hb1.size; omega) (fun k hk => (hown.lt k hk).1)).setCell (p := ⟨b, 1, none⟩) hB _
  ·refine (hf1.mono (fun k _ e => by rw [e]; exact hUb)).trans (Fr.trans ⟨hgrow.os, hgrow.tape, hgrow.output, hgrow.size, fun k hk hs => hgrow.block k hk (fun e => hs (hUq k e.symm))⟩ ((Fr.set w2 ⟨b, 1, none⟩ _).mono (fun k _ e => by rw [e]; exact hUb)))
end Go.Proofs.YtlkdmpfifpkpaaaGreatDoor

